/- Part 1 of a proof: base, sl, gauss, gauss2, held, ints, copyints, marks, hold2, tabs, slsl, slsl0, gmat, between, cells, copycells, rowc, putc, ins. -/
import Derived.Test.YtmehmpammjcnkabGreatRows
import Derived.WalkKit
import Derived.ProofKit
import Derived.OpenShut
import Derived.BigQuiet
import Derived.Lib.Hide
import Derived.Deep.QuietTactic
import Derived.Outline
import Derived.OrdersHeld
import Derived.Laws.AppendOwnNone
import Derived.Deep.AppendLies
import Derived.Lib.ReflectliteSwap
import Derived.Sort.LotA
import Derived.Laws.Externs
namespace Go.Proofs.YtmehmpammjcnkabGreat
set_option linter.unusedVariables false
section
open Go.ChangeShapes Go.WideShapes Go.ChangeAt Go.RowKit
/-- New blocks behind those of a world, and another count of draws. -/
structure Ext where
  bs : Array Obj
  d : Nat
instance : Nonempty Ext := ⟨⟨#[], 0⟩⟩
def ext (w : World) (x : Ext) : World := { w with heap := w.heap ++ x.bs, drawn := x.d }
/-- block n lies in w -/
class Old (w : World) (n : Nat) : Prop where
  lt : n < w.heap.size
/-- w has n blocks -/
class SizeIs (w : World) (n : Nat) : Prop where
  eq : w.heap.size = n
section
variable (w : World) (x y : Ext)
theorem size_ext : (ext w x).heap.size = w.heap.size + x.bs.size := by simp [ext]
theorem ext_ext : ext (ext w x) y = ext w ⟨x.bs ++ y.bs, y.d⟩ := by simp [ext, Array.append_assoc]
@[go_sem] theorem drew_ext : (ext w x).drew = ext w ⟨x.bs, x.d + 1⟩ := rfl
@[go_sem] theorem drawn_ext : ({ ext w x with drawn := (ext w x).drawn + 1 } : World) = ext w ⟨x.bs, x.d + 1⟩ := rfl
@[go_sem] theorem tape_ext : (ext w x).tape = w.tape := rfl
@[go_sem] theorem os_ext : (ext w x).os = w.os := rfl
@[go_sem] theorem output_ext : (ext w x).output = w.output := rfl
theorem lt_ext {n : Nat} (h : n < w.heap.size) : n < (ext w x).heap.size := by rw [size_ext]; omega
theorem lt_alloc {n : Nat} (o : Obj) (h : n < w.heap.size) : n < (w.alloc o).heap.size := by rw [World.size_alloc]; omega
instance old_ext {n : Nat} [h : Old w n] : Old (ext w x) n := ⟨lt_ext w x h.lt⟩
instance old_alloc {n : Nat} (o : Obj) [h : Old w n] : Old (w.alloc o) n := ⟨lt_alloc w o h.lt⟩
instance old_new (o : Obj) {n : Nat} [h : SizeIs w n] : Old (w.alloc o) n := ⟨by rw [World.size_alloc, h.eq]; omega⟩
instance size_new (o : Obj) {n : Nat} [h : SizeIs w n] : SizeIs (w.alloc o) (n + 1) := ⟨by rw [World.size_alloc, h.eq]⟩
instance size_set {n : Nat} (a : Addr) (v : Value) [h : SizeIs w n] : SizeIs (w.setCell a v) n := ⟨by rw [World.size_setCell, h.eq]⟩
instance size_drew {n : Nat} [h : SizeIs w n] : SizeIs w.drew n := ⟨h.eq⟩
instance (priority := low) size_self : SizeIs w w.heap.size := ⟨rfl⟩
instance old_drew {n : Nat} [h : Old w n] : Old w.drew n := ⟨h.lt⟩
instance old_set {n : Nat} (a : Addr) (v : Value) [h : Old w n] : Old (w.setCell a v) n := ⟨by rw [World.size_setCell]; exact h.lt⟩
theorem heap_ext {n : Nat} (h : n < w.heap.size) : (ext w x).heap[n]? = w.heap[n]? := by
  simp [ext, Array.getElem?_append_left h]
@[go_sem] theorem cell?_ext {n i : Nat} [h : Old w n] : (ext w x).cell? ⟨n, i, none⟩ = w.cell? ⟨n, i, none⟩ := by
  simp only [World.cell?, heap_ext w x h.lt]
@[go_sem] theorem cell?_old {n i : Nat} (o : Obj) [h : Old w n] : (w.alloc o).cell? ⟨n, i, none⟩ = w.cell? ⟨n, i, none⟩ := World.cell?_alloc_past o n i h.lt
@[go_sem] theorem frozen?_old {n i : Nat} (o : Obj) [h : Old w n] : (w.alloc o).frozen? ⟨n, i, none⟩ = w.frozen? ⟨n, i, none⟩ := World.frozen?_alloc_past o n i h.lt
@[go_sem] theorem setCell_old {n i : Nat} (o : Obj) (v : Value) [h : Old w n] : (w.alloc o).setCell ⟨n, i, none⟩ v = (w.setCell ⟨n, i, none⟩ v).alloc o := World.setCell_alloc_past o n i v h.lt
@[go_sem] theorem frozen?_ext {n i : Nat} [h : Old w n] : (ext w x).frozen? ⟨n, i, none⟩ = w.frozen? ⟨n, i, none⟩ := by
  simp only [World.frozen?, heap_ext w x h.lt]
@[go_sem] theorem shape?_ext {n : Nat} [h : Old w n] : (ext w x).shape? n = w.shape? n := by
  simp only [World.shape?, heap_ext w x h.lt]
@[go_sem] theorem setCell_ext {n i : Nat} (v : Value) [ho : Old w n] : (ext w x).setCell ⟨n, i, none⟩ v = ext (w.setCell ⟨n, i, none⟩ v) x := by
  have h := ho.lt
  simp only [World.setCell, ext]
  congr 1
  apply Array.ext_getElem?
  intro k
  simp only [Array.getElem?_modify, Array.getElem?_append, Array.size_modify]
  by_cases hk : n = k
  · subst hk; simp [h]
  · simp [hk]
end
theorem ext_zero (w : World) : w = ext w ⟨#[], w.drawn⟩ := by simp [ext]
theorem ext_alloc (w : World) (o : Obj) : ∃ x, w.alloc o = ext w x := ⟨⟨#[o], w.drawn⟩, by simp only [ext, Array.append_singleton]; rfl⟩
theorem Below_ext (w : World) (x : Ext) : Below w.heap.size w (ext w x) := ⟨rfl, rfl, rfl, by simp [size_ext], fun k hk => heap_ext w x hk⟩
theorem ext_of {w w' : World} (h : Below w.heap.size w w') : ∃ x, w' = ext w x := by
  refine ⟨⟨w'.heap.extract w.heap.size w'.heap.size, w'.drawn⟩, ?_⟩
  obtain ⟨h1, h2, h3, h4, h5⟩ := h
  cases w'
  simp only [ext] at *
  subst h1; subst h2; subst h3
  congr 1
  apply Array.ext_getElem?
  intro k
  rw [Array.getElem?_append]
  split
  · exact h5 k (by assumption)
  · rename_i hk
    rw [Array.getElem?_extract]
    by_cases hk2 : k < Array.size (by assumption : Array Obj)
    · rw [if_pos (by omega)]
      congr 1
      omega
    · rw [if_neg (by omega)]
      simp
      omega
theorem Calls_ext_of {P : Program} {f : FuncId} {args : Array Value} {w : World} {x : Ext} {v : Value}
    (h : Calls P f args (ext w x) fun e w' => e = .returned v ∧ ∃ y, w' = ext (ext w x) y) : Calls P f args (ext w x) fun e w'' => e = .returned v ∧ ∃ y, w'' = ext w y :=
  h.mono fun _ _ ⟨he, m, hm⟩ => ⟨he, ⟨x.bs ++ m.bs, m.d⟩, by rw [hm, ext_ext]⟩
theorem wp_region_ext_lit {P : Program} {id : Nat} {Q : Exit → Act → World → Prop} {a : Act} {w : World} {l : List Oper} (hm : P.follows .mixedOrders = true) (hB : Region.lexB .any l.toArray = true)
    (h : wpQuiet P l.toArray (fun w' => ∃ x, w' = ext w x) (fun a' => ∀ w', (∃ x, w' = ext w x) → Q .normal a' w') l a) : (Code.region id l.toArray true).wp P Q a w :=
  wp_region_quiet (C := fun w' => ∃ x, w' = ext w x) hm hB ⟨⟨#[], w.drawn + 1⟩, by simp [ext]⟩ (by simpa using h)
theorem bel_of_ext {w w' : World} (h : ∃ x, w' = ext w x) : Below w.heap.size w w' := by obtain ⟨x, rfl⟩ := h; exact Below_ext w x
theorem ext_trans {w w1 w2 : World} (h : ∃ x, w1 = ext w x) (k : ∃ x, w2 = ext w1 x) : ∃ x, w2 = ext w x := by
  obtain ⟨x, rfl⟩ := h; obtain ⟨y, rfl⟩ := k; exact ⟨_, ext_ext w x y⟩
theorem ext_refl (w : World) : ∃ x, w = ext w x := ⟨_, ext_zero w⟩
theorem ext_alloc' {w w1 : World} (h : ∃ x, w1 = ext w x) (o : Obj) : ∃ x, w1.alloc o = ext w x := ext_trans h (ext_alloc w1 o)
theorem ext_ext' {w w1 : World} (h : ∃ x, w1 = ext w x) (y : Ext) : ∃ x, ext w1 y = ext w x := ext_trans h ⟨y, rfl⟩
theorem ext_drew' {w w1 : World} (h : ∃ x, w1 = ext w x) : ∃ x, w1.drew = ext w x := ext_trans h ⟨⟨#[], w1.drawn + 1⟩, by simp only [ext, Array.append_empty]; rfl⟩
theorem ret_bool {a b : Bool} (h : a = b) : Ending.returned (.bool a) = .returned (.bool b) := by rw [h]
theorem ret_int {a b : Int} (h : a = b) : Ending.returned (.int .i64 a) = .returned (.int .i64 b) := by rw [h]
theorem bool_not {b : Bool} (h : (!b) = true) : b = false := by simpa using h
theorem bool_not' {b : Bool} (h : (!b) = false) : b = true := by simpa using h
theorem int_succ (k : Nat) : Value.int .i64 ((k : Int) + 1) = .int .i64 ((k + 1 : Nat) : Int) := by simp
theorem Calls_ext_of2 {P : Program} {f : FuncId} {args : Array Value} {w : World} {b c : Array Obj} {d : Nat} {v : Value}
    (h : Calls P f args (ext w ⟨b ++ c, d⟩) fun e w' => e = .returned v ∧ ∃ y, w' = ext (ext w ⟨b ++ c, d⟩) y) : Calls P f args (ext w ⟨b ++ c, d⟩) fun e w'' => e = .returned v ∧ ∃ y : Ext, w'' = ext w ⟨b ++ y.bs, y.d⟩ :=
  h.mono fun _ _ ⟨he, m, hm⟩ => ⟨he, ⟨c ++ m.bs, m.d⟩, by rw [hm, ext_ext]; simp only [Array.append_assoc]⟩
theorem own_slice {w : World} {B e sz : Nat} {v : Value} {n : Nat} {xs : List Value} (h : w.ownsRow B e sz v n xs) : ∃ a cap, v = .slice a n cap := by
  rcases h.2 with ⟨rfl, rfl⟩ | ⟨g, cap, cur, rfl, _⟩
  · exact ⟨_, _, rfl⟩
  · exact ⟨_, _, rfl⟩
theorem own_move {W W' : World} {x : Ext} {B e sz : Nat} {v : Value} {n : Nat} {xs : List Value} (h : (ext W x).ownsRow B e sz v n xs) (hs : W'.heap.size = W.heap.size) (hB : W.heap.size ≤ B) : (ext W' x).ownsRow B e sz v n xs := by
  refine ⟨h.1, ?_⟩
  rcases h.2 with h2 | ⟨g, cap, cur, h1, h2, h3, h4⟩
  · exact .inl h2
  · refine .inr ⟨g, cap, cur, h1, h2, ?_, h4⟩
    rw [← h3]
    simp only [ext, Array.getElem?_append, hs]
    rw [if_neg (by omega), if_neg (by omega)]
theorem own_base {w : World} {B B' e sz : Nat} {v : Value} {n : Nat} {xs : List Value} (h : w.ownsRow B e sz v n xs) (hB : B' ≤ B) : w.ownsRow B' e sz v n xs := by
  refine ⟨h.1, ?_⟩
  rcases h.2 with h2 | ⟨g, cap, cur, h1, h2, h3⟩
  · exact .inl h2
  · exact .inr ⟨g, cap, cur, h1, Nat.le_trans hB h2, h3⟩
theorem wp_region_heldE {P : Program} {id : Nat} {Q : Exit → Act → World → Prop} {a : Act} {w : World} {ops : Array Oper} (hm : P.follows .mixedOrders = true)
    (h : wpAnyH P .any ops Q (fun w' => ∃ x, w' = ext w x) ops.size (Array.replicate ops.size false) a (ext w ⟨#[], w.drawn + 1⟩)) : (Code.region id ops true).wp P Q a w :=
  wp_region_held hm (by simpa [ext] using h)
theorem takeE {P : Program} {ops : Array Oper} {Q : Exit → Act → World → Prop} {W : World} {i : Nat} {oi : Oper} {v : Value} {fuel : Nat} {listed : Array Bool} {a : Act} {w : World} (hi : ops[i]? = some oi)
    (hs : Region.noSelect ops = true) (hf : Region.free .any ops listed i = true) (hr : (Region.ready .any ops listed).contains i = true)
    (hQ : ∀ c a w, Q (.panic c) (a.put oi.dst v) w → Q (.panic c) a w) (hw : Region.wanted oi (yielded ops a.tmps) = true) (hy : ∀ x, (execOp a.eval oi).run P (ext W x) = .ok (.value v) (ext W x)) (hS : ∃ x, w = ext W x)
    (h : wpAnyH P .any ops Q (fun w' => ∃ x, w' = ext W x) fuel (listed.setIfInBounds i true) (a.put oi.dst v) w) : wpAnyH P .any ops Q (fun w' => ∃ x, w' = ext W x) (fuel + 1) listed a w :=
  wpAnyH_take hi hs hf hr hQ (.inl ⟨hw, by rintro _ ⟨x, rfl⟩; exact hy x⟩) hS h
theorem nextE {P : Program} {ops : Array Oper} {Q : Exit → Act → World → Prop} {S : World → Prop} {i : Nat} {o : Oper} {fuel : Nat} {listed : Array Bool} {a : Act} {w : World} (ho : ops[i]? = some o)
    (hr : Region.ready .any ops listed = [i]) (hw : Region.wanted o (yielded ops a.tmps) = true)
    (h : ∀ K' : Act → World → Prop, Hid (∀ a w, S w → wpAnyH P .any ops Q S fuel (listed.setIfInBounds i true) a w → K' a w) → Oper.wp P o a w K' Q) : wpAnyH P .any ops Q S (fuel + 1) listed a w :=
  wpAnyH_all hr (by simp) fun j hj => by
    obtain rfl : j = i := by simpa using hj
    exact wpOp_step ho (fun K' hK => by rw [if_pos hw]; exact h K' (fun a w hS hW => hK a w ⟨hS, hW⟩))
end
section
open Go.ChangeShapes Go.WideShapes Go.ChangeAt Go.RowKit
/-- the k-th number of a list (0 behind its end); kept closed to simp -/
def nth (xs : List Int) (k : Nat) : Int := xs.getD k 0
def iter {α : Type} (f : Nat → α → α) (a : α) : Nat → α
  | 0 => a
  | n + 1 => f n (iter f a n)
def allTo (p : Nat → Bool) : Nat → Bool
  | 0 => true
  | n + 1 => allTo p n && p n
theorem allTo_false {p : Nat → Bool} {k n : Nat} (h : k < n) (hk : p k = false) : allTo p n = false := by
  induction n with
  | zero => omega
  | succ n ih =>
    simp only [allTo]
    by_cases e : k = n
    · subst e; simp [hk]
    · rw [ih (by omega)]; rfl
theorem allTo_true {p : Nat → Bool} {n : Nat} : allTo p n = true ↔ ∀ k, k < n → p k = true := by
  induction n with
  | zero => simp [allTo]
  | succ n ih =>
    simp only [allTo, Bool.and_eq_true, ih]
    constructor
    · rintro ⟨h1, h2⟩ k hk
      by_cases e : k = n
      · subst e; exact h2
      · exact h1 k (by omega)
    · intro h
      exact ⟨fun k hk => h k (by omega), h n (by omega)⟩
theorem allTo_succ {p : Nat → Bool} {k : Nat} (h : allTo p k = true) (hk : p k = true) : allTo p (k + 1) = true := by simp [allTo, h, hk]
/-- v is a slice of n elements of sz cells each, which hold cs -/
def Sl (w : World) (sz : Nat) (v : Value) (n : Nat) (cs : List Value) : Prop :=
  ∃ a b o cap, v = .slice a n cap ∧ n ≤ cap ∧ cap ≤ maxLen ∧ cs.length = n * sz ∧ (0 < n → a = some ⟨b, o, none⟩ ∧ b < w.heap.size) ∧ ∀ i, i < cs.length → w.cell? ⟨b, o + i, none⟩ = cs[i]?
theorem Sl.mono {w w' : World} {sz : Nat} {v : Value} {n : Nat} {cs : List Value} (h : Sl w sz v n cs) (hb : Below w.heap.size w w') : Sl w' sz v n cs := by
  obtain ⟨a, b, o, cap, rfl, h1, h2, h3, h4, h5⟩ := h
  refine ⟨a, b, o, cap, rfl, h1, h2, h3, fun hn => ⟨(h4 hn).1, Nat.lt_of_lt_of_le (h4 hn).2 hb.size⟩, fun i hi => ?_⟩
  have hn : 0 < n := by
    rcases Nat.eq_zero_or_pos n with e | e
    · subst e; simp at h3; simp [h3] at hi
    · exact e
  rw [← h5 i hi]
  exact hb.cell (p := ⟨b, o + i, none⟩) (h4 hn).2
theorem Sl.ext {w : World} {sz : Nat} {v : Value} {n : Nat} {cs : List Value} (h : Sl w sz v n cs) (x : Ext) : Sl (ext w x) sz v n cs := h.mono (Below_ext w x)
theorem Sl.alloc {w : World} {sz : Nat} {v : Value} {n : Nat} {cs : List Value} (h : Sl w sz v n cs) (o : Obj) : Sl (w.alloc o) sz v n cs :=
  h.mono ((Below.refl _ _).alloc (Nat.le_refl _) o)
theorem Sl_own {w : World} {base e sz : Nat} {v : Value} {n : Nat} {cs : List Value} (h : w.ownsRow base e sz v n cs) : Sl w sz v n cs := by
  obtain ⟨h1, h2⟩ := h
  rcases h2 with ⟨rfl, rfl⟩ | ⟨g, cap, cur, rfl, hb, hg, hnc, hcm, hcs, htake⟩
  · exact ⟨none, 0, 0, 0, rfl, Nat.le_refl _, by simp [maxLen], h1, fun h => absurd h (by omega), fun i hi => by simp at h1; simp [h1] at hi⟩
  · refine ⟨_, g, 0, cap, rfl, hnc, hcm, h1, fun _ => ⟨rfl, (Array.getElem?_eq_some_iff.1 hg).1⟩, fun i hi => ?_⟩
    rw [Nat.zero_add, cell_of_row w g i cur e (0, 0) hg, ← htake, List.getElem?_take, if_pos (by omega)]
    simp
theorem idx_run {t e sz : Nat} {z : Option Value} {P : Program} (ht : P.underlying t = some (.slice e)) (hi : (P.info? e).map (fun i => i.size) = some sz)
    (b o n cap k : Nat) (h : k < n) (w : World) :
    (Instr.indexAt t (.slice (some ⟨b, o, none⟩) n cap) (.int .i64 k)).run P w = .ok (.pointer (some ⟨b, o + k * sz, none⟩)) w := by
  obtain ⟨i, hi1, hi2⟩ := Option.map_eq_some_iff.1 hi
  subst hi2
  simp [Instr.indexAt, asIntOf, run_underlying ht, sizeOf, typeInfo, hi1, h, Addr.add]
theorem Sl.idx {w : World} {sz : Nat} {v : Value} {n : Nat} {cs : List Value} (h : Sl w sz v n cs) {t e : Nat} {P : Program} (ht : P.underlying t = some (.slice e)) (hi : (P.info? e).map (fun i => i.size) = some sz) :
    ∃ a b o cap, v = .slice a n cap ∧ n ≤ cap ∧ n ≤ 9223372036854775807 ∧ cap ≤ 9223372036854775807 ∧ ∀ k, k < n → Old w b ∧ (∀ w', (Instr.indexAt t (.slice a n cap) (.int .i64 k)).run P w' = .ok (.pointer (some ⟨b, o + k * sz, none⟩)) w') ∧
      ∀ j, j < sz → w.cell? ⟨b, o + k * sz + j, none⟩ = cs[k * sz + j]? := by
  obtain ⟨a, b, o, cap, rfl, h1, h2, h3, h4, h5⟩ := h
  unfold maxLen at h2
  refine ⟨a, b, o, cap, rfl, h1, by omega, by omega, fun k hk => ?_⟩
  obtain ⟨rfl, hb⟩ := h4 (by omega)
  refine ⟨⟨hb⟩, fun w' => idx_run (z := none) ht hi b o n cap k hk w', fun j hj => ?_⟩
  have : k * sz + j < n * sz := by
    have : (k + 1) * sz ≤ n * sz := Nat.mul_le_mul_right _ hk
    rw [Nat.add_mul] at this
    omega
  rw [Nat.add_assoc]
  exact h5 _ (by omega)
/-! ### numbers -/
def iv (n : Int) : Value := .int .i64 n
def IntsAt (w : World) (v : Value) (xs : List Int) : Prop := Sl w 1 v xs.length (xs.map iv)
theorem IntsAt.mono {w w' : World} {v : Value} {xs : List Int} (h : IntsAt w v xs) (hb : Below w.heap.size w w') : IntsAt w' v xs := Sl.mono h hb
theorem IntsAt.ext {w : World} {v : Value} {xs : List Int} (h : IntsAt w v xs) (x : Ext) : IntsAt (ext w x) v xs := Sl.ext h x
theorem IntsAt.alloc {w : World} {v : Value} {xs : List Int} (h : IntsAt w v xs) (o : Obj) : IntsAt (w.alloc o) v xs := Sl.alloc h o
theorem nth_get {xs : List Int} {k : Nat} (h : k < xs.length) : xs[k] = nth xs k := by simp [nth, h]
theorem getElem_of_nth {xs : List Int} {k : Nat} (h : k < xs.length) : (xs.map iv)[k]? = some (.int .i64 (nth xs k)) := by
  rw [← nth_get h]; simp [iv, h]
theorem Sl_of_cells {W : World} {sz : Nat} {ad : Addr} {len cap : Nat} {cs : List Value} (h1 : len ≤ cap) (h2 : cap ≤ maxLen) (h3 : cs.length = len * sz) (h0 : 0 < sz) (hc : ∀ i, i < cs.length → W.cell? (ad.add i) = cs[i]?) :
    Sl W sz (.slice (some ad) len cap) len cs := by
  by_cases hp : 0 < len
  · have hp' : 0 < cs.length := by rw [h3]; exact Nat.mul_pos hp h0
    obtain ⟨b, o, spot⟩ := ad
    have hs : spot = none := by
      have := hc 0 hp'
      rw [List.getElem?_eq_getElem hp'] at this
      simpa [Addr.add] using World.cell?_spot this
    subst hs
    refine ⟨_, b, o, cap, rfl, h1, h2, h3, fun _ => ⟨rfl, ?_⟩, fun i hi => ?_⟩
    · have := hc 0 hp'
      rw [List.getElem?_eq_getElem hp'] at this
      simp only [Addr.add, if_true] at this
      exact World.block_lt_of_cell? W ⟨b, o, none⟩ this
    · rw [← hc i hi, Go.WideShapes.add_plain]
  · obtain rfl : len = 0 := by omega
    exact ⟨_, 0, 0, cap, rfl, h1, h2, h3, fun h => absurd h hp, fun i hi => by simp at h3; simp [h3] at hi⟩
end
section
open Go.ChangeShapes Go.WideShapes Go.ChangeAt Go.RowKit
abbrev Mat := Nat → Nat → Int
def sumTo (f : Nat → Int) : Nat → Int
  | 0 => 0
  | n + 1 => sumTo f n + f n
theorem sumTo_congr {f g : Nat → Int} {n : Nat} (h : ∀ j, j < n → f j = g j) : sumTo f n = sumTo g n := by
  induction n with
  | zero => rfl
  | succ n ih => simp only [sumTo]; rw [ih fun j hj => h j (by omega), h n (by omega)]
theorem sumTo_zero {f : Nat → Int} {n : Nat} (h : ∀ j, j < n → f j = 0) : sumTo f n = 0 := by
  induction n with
  | zero => rfl
  | succ n ih => simp only [sumTo]; rw [ih fun j hj => h j (by omega), h n (by omega)]; rfl
theorem sumTo_add (f g : Nat → Int) (n : Nat) : sumTo (fun j => f j + g j) n = sumTo f n + sumTo g n := by
  induction n with
  | zero => rfl
  | succ n ih => simp only [sumTo]; rw [ih]; omega
theorem sumTo_mul (c : Int) (f : Nat → Int) (n : Nat) : sumTo (fun j => c * f j) n = c * sumTo f n := by
  induction n with
  | zero => simp [sumTo]
  | succ n ih => simp only [sumTo]; rw [ih, Int.mul_add]
/-- all but one vanish -/
theorem sumTo_one {f : Nat → Int} {n k : Nat} (hk : k < n) (h : ∀ j, j < n → j ≠ k → f j = 0) : sumTo f n = f k := by
  induction n with
  | zero => omega
  | succ n ih =>
    simp only [sumTo]
    by_cases e : k = n
    · subst e
      rw [sumTo_zero fun j hj => h j (by omega) (by omega)]; omega
    · rw [ih (by omega) fun j hj hne => h j (by omega) hne, h n (by omega) (by omega)]; omega
theorem sumTo_dvd {p : Int} {f g : Nat → Int} {n : Nat} (h : ∀ j, j < n → p ∣ f j - g j) : p ∣ sumTo f n - sumTo g n := by
  induction n with
  | zero => exact ⟨0, by simp [sumTo]⟩
  | succ n ih =>
    simp only [sumTo]
    have h1 := ih fun j hj => h j (by omega)
    have h2 := h n (by omega)
    have : sumTo f n + f n - (sumTo g n + g n) = (sumTo f n - sumTo g n) + (f n - g n) := by omega
    rw [this]; exact Int.dvd_add h1 h2
/-! ### the first row that is not 0 -/
def nzF (M : Mat) (c : Nat) : Nat → Nat → Nat
  | 0, k => k
  | d + 1, k => if M k c = 0 then nzF M c d (k + 1) else k
theorem nzF_spec (M : Mat) (c : Nat) : ∀ d k, k ≤ nzF M c d k ∧ nzF M c d k ≤ k + d ∧ (∀ q, k ≤ q → q < nzF M c d k → M q c = 0) ∧ (nzF M c d k < k + d → M (nzF M c d k) c ≠ 0)
  | 0, k => ⟨by simp [nzF], by simp [nzF], fun q h1 h2 => by simp [nzF] at h2; omega, fun h => by simp [nzF] at h⟩
  | d + 1, k => by
    by_cases h : M k c = 0
    · have e : nzF M c (d + 1) k = nzF M c d (k + 1) := by simp [nzF, h]
      obtain ⟨h1, h2, h3, h4⟩ := nzF_spec M c d (k + 1)
      rw [e]
      refine ⟨by omega, by omega, fun q hq1 hq2 => ?_, fun hl => h4 (by omega)⟩
      by_cases e2 : q = k
      · subst e2; exact h
      · exact h3 q (by omega) hq2
    · have e : nzF M c (d + 1) k = k := by simp [nzF, h]
      rw [e]
      exact ⟨Nat.le_refl _, by omega, fun q h1 h2 => by omega, fun _ => h⟩
theorem nzF_unique {M : Mat} {c d k a : Nat} (h1 : k ≤ a) (h2 : a < k + d) (h3 : ∀ q, k ≤ q → q < a → M q c = 0) (h4 : M a c ≠ 0) : nzF M c d k = a := by
  obtain ⟨k1, k2, k3, k4⟩ := nzF_spec M c d k
  rcases Nat.lt_trichotomy (nzF M c d k) a with e | e | e
  · exact absurd (h3 _ k1 e) (k4 (by omega))
  · exact e
  · exact absurd (k3 _ h1 e) h4
theorem nzF_none {M : Mat} {c d k : Nat} (h : ∀ q, k ≤ q → q < k + d → M q c = 0) : nzF M c d k = k + d := by
  obtain ⟨k1, k2, k3, k4⟩ := nzF_spec M c d k
  rcases Nat.lt_or_ge (nzF M c d k) (k + d) with e | e
  · exact absurd (h _ k1 e) (k4 e)
  · omega
/-! ### the steps -/
def swapR (M : Mat) (a b : Nat) : Mat := fun i => if i = a then M b else if i = b then M a else M i
def scaleR (p : Int) (M : Mat) (t : Nat) (v : Int) : Mat := fun i j => if i = t then M i j * v % p else M i j
def elimR (p : Int) (M : Mat) (t c : Nat) : Mat := fun i j => if i = t then M i j else (M i j + (p - M i c) * M t j) % p
/-- the least inverse from 1 on -/
def invP (p x : Int) : Int := if x * 1 % p = 1 then 1 else if x * 2 % p = 1 then 2 else if x * 3 % p = 1 then 3 else 4
def primeP (p : Int) : Prop := p = 2 ∨ p = 3 ∨ p = 5
theorem invP_spec {p x : Int} (hp : primeP p) (h0 : x ≠ 0) (h1 : 0 ≤ x) (h2 : x < p) : x * invP p x % p = 1 ∧ 1 ≤ invP p x ∧ invP p x ≤ 4 ∧ invP p x < p ∧ ∀ y, 1 ≤ y → y < invP p x → x * y % p ≠ 1 := by
  rcases hp with rfl | rfl | rfl
  · have : x = 1 := by omega
    subst this
    refine ⟨by decide, by decide, by decide, by decide, fun y h1 h2 => ?_⟩
    have : invP 2 1 = 1 := by decide
    omega
  · have : x = 1 ∨ x = 2 := by omega
    rcases this with rfl | rfl
    · refine ⟨by decide, by decide, by decide, by decide, fun y h1 h2 => ?_⟩
      have : invP 3 1 = 1 := by decide
      omega
    · refine ⟨by decide, by decide, by decide, by decide, fun y h1 h2 => ?_⟩
      have : invP 3 2 = 2 := by decide
      have : y = 1 := by omega
      subst this; decide
  · have : x = 1 ∨ x = 2 ∨ x = 3 ∨ x = 4 := by omega
    rcases this with rfl | rfl | rfl | rfl
    · refine ⟨by decide, by decide, by decide, by decide, fun y h1 h2 => ?_⟩
      have : invP 5 1 = 1 := by decide
      omega
    · refine ⟨by decide, by decide, by decide, by decide, fun y h1 h2 => ?_⟩
      have : invP 5 2 = 3 := by decide
      have : y = 1 ∨ y = 2 := by omega
      rcases this with rfl | rfl <;> decide
    · refine ⟨by decide, by decide, by decide, by decide, fun y h1 h2 => ?_⟩
      have : invP 5 3 = 2 := by decide
      have : y = 1 := by omega
      subst this; decide
    · refine ⟨by decide, by decide, by decide, by decide, fun y h1 h2 => ?_⟩
      have : invP 5 4 = 4 := by decide
      have : y = 1 ∨ y = 2 ∨ y = 3 := by omega
      rcases this with rfl | rfl | rfl <;> decide
/-- one column -/
def colS (p : Int) (m c : Nat) (s : Mat × List Nat) : Mat × List Nat :=
  if s.2.length < m then
    if nzF s.1 c (m - s.2.length) s.2.length < m then
      (elimR p (scaleR p (swapR s.1 s.2.length (nzF s.1 c (m - s.2.length) s.2.length)) s.2.length (invP p (swapR s.1 s.2.length (nzF s.1 c (m - s.2.length) s.2.length) s.2.length c))) s.2.length c, s.2 ++ [c])
    else s
  else s
def gsTo (p : Int) (m : Nat) (M : Mat) : Nat → Mat × List Nat := iter (fun c s => colS p m c s) (M, [])
theorem gsTo_succ (p : Int) (m : Nat) (M : Mat) (c : Nat) : gsTo p m M (c + 1) = colS p m c (gsTo p m M c) := rfl
/-! ### what holds at each column -/
def Resid (p : Int) (m n : Nat) (M : Mat) : Prop := ∀ i, i < m → ∀ j, j < n → 0 ≤ M i j ∧ M i j < p
def nul (p : Int) (m n : Nat) (M : Mat) (x : Nat → Int) : Prop := ∀ i, i < m → p ∣ sumTo (fun j => M i j * x j) n
structure Red (p : Int) (m n : Nat) (A : Mat) (c : Nat) (M : Mat) (piv : List Nat) : Prop where
  res : Resid p m n M
  le : piv.length ≤ m
  asc : piv.Pairwise (· < ·)
  lt : ∀ q ∈ piv, q < c
  one : ∀ i (h : i < piv.length), ∀ k, k < m → M k piv[i] = if k = i then 1 else 0
  low : ∀ k, piv.length ≤ k → k < m → ∀ j, j < c → M k j = 0
  lead : ∀ i (h : i < piv.length), ∀ j, j < piv[i] → M i j = 0
  same : ∀ x, nul p m n M x ↔ nul p m n A x
theorem mod_dvd (a p : Int) : p ∣ a % p - a := by
  have := Int.emod_add_mul_ediv a p
  exact ⟨-(a / p), by rw [Int.mul_neg]; omega⟩
theorem nul_swap {p : Int} {m n : Nat} {M : Mat} {a b : Nat} (ha : a < m) (hb : b < m) (x : Nat → Int) : nul p m n (swapR M a b) x ↔ nul p m n M x := by
  have key : ∀ M : Mat, nul p m n M x → nul p m n (swapR M a b) x := fun M h i hi => by
    by_cases e : i = a
    · have := h b hb; simpa [swapR, e] using this
    · by_cases e2 : i = b
      · have := h a ha
        have e3 : swapR M a b i = M a := by
          unfold swapR; rw [if_neg e, if_pos e2]
        rw [e3]; exact this
      · have e3 : swapR M a b i = M i := by simp only [swapR, e, e2, if_false]
        rw [e3]; exact h i hi
  refine ⟨fun h => ?_, key M⟩
  have := key _ h
  have e : swapR (swapR M a b) a b = M := by
    funext i
    by_cases e1 : i = a
    · subst e1
      by_cases e2 : b = i
      · subst e2; simp [swapR]
      · simp [swapR, e2]
    · by_cases e2 : i = b
      · subst e2; simp [swapR, e1]
      · simp [swapR, e1, e2]
  rwa [e] at this
theorem dvd_of_unit {p u v s : Int} (hu : u * v % p = 1) (h : p ∣ v * s) : p ∣ s := by
  have h1 : p ∣ u * (v * s) := Int.dvd_trans h ⟨u, by rw [Int.mul_comm]⟩
  have h2 : u * v = 1 + p * (u * v / p) := by have := Int.emod_add_mul_ediv (u * v) p; omega
  generalize u * v / p = w at h2
  have h3 : u * (v * s) = s + p * (w * s) := by rw [← Int.mul_assoc, h2, Int.add_mul, Int.one_mul, Int.mul_assoc]
  rw [h3] at h1
  exact (Int.dvd_add_left ⟨_, rfl⟩).1 h1
theorem nul_scale {p : Int} {m n : Nat} {M : Mat} {t : Nat} {u v : Int} (huv : u * v % p = 1) (x : Nat → Int) : nul p m n (scaleR p M t v) x ↔ nul p m n M x := by
  have e : ∀ i, i ≠ t → scaleR p M t v i = M i := fun i h => by funext j; simp [scaleR, h]
  have d : p ∣ sumTo (fun j => scaleR p M t v t j * x j) n - v * sumTo (fun j => M t j * x j) n := by
    rw [← sumTo_mul]
    refine sumTo_dvd fun j _ => ?_
    obtain ⟨q, hq⟩ := mod_dvd (M t j * v) p
    refine ⟨q * x j, ?_⟩
    simp only [scaleR, if_true]
    show M t j * v % p * x j - v * (M t j * x j) = p * (q * x j)
    rw [← Int.mul_assoc p, ← hq, Int.sub_mul]
    congr 1
    rw [Int.mul_comm (M t j) v, Int.mul_assoc]
  constructor
  · intro h i hi
    by_cases ht : i = t
    · subst ht
      have h1 := h i hi
      have : p ∣ v * sumTo (fun j => M i j * x j) n := by
        have h2 := Int.dvd_sub h1 d
        have e2 : sumTo (fun j => scaleR p M i v i j * x j) n - (sumTo (fun j => scaleR p M i v i j * x j) n - v * sumTo (fun j => M i j * x j) n) = v * sumTo (fun j => M i j * x j) n := by omega
        rwa [e2] at h2
      exact dvd_of_unit huv this
    · have := h i hi; rwa [e i ht] at this
  · intro h i hi
    by_cases ht : i = t
    · subst ht
      have h1 : p ∣ v * sumTo (fun j => M i j * x j) n := Int.dvd_trans (h i hi) ⟨v, by rw [Int.mul_comm]⟩
      have h2 := Int.dvd_add d h1
      have e2 : sumTo (fun j => scaleR p M i v i j * x j) n - v * sumTo (fun j => M i j * x j) n + v * sumTo (fun j => M i j * x j) n = sumTo (fun j => scaleR p M i v i j * x j) n := by omega
      rwa [e2] at h2
    · rw [e i ht]; exact h i hi
theorem nul_elim {p : Int} {m n : Nat} {M : Mat} {t c : Nat} (ht : t < m) (x : Nat → Int) : nul p m n (elimR p M t c) x ↔ nul p m n M x := by
  have e : elimR p M t c t = M t := by funext j; simp [elimR]
  have d : ∀ i, i ≠ t → p ∣ sumTo (fun j => elimR p M t c i j * x j) n - (sumTo (fun j => M i j * x j) n + (p - M i c) * sumTo (fun j => M t j * x j) n) := fun i hi => by
    rw [← sumTo_mul, ← sumTo_add]
    refine sumTo_dvd fun j _ => ?_
    obtain ⟨q, hq⟩ := mod_dvd (M i j + (p - M i c) * M t j) p
    refine ⟨q * x j, ?_⟩
    simp only [elimR, if_neg hi]
    show (M i j + (p - M i c) * M t j) % p * x j - (M i j * x j + (p - M i c) * (M t j * x j)) = p * (q * x j)
    generalize (p - M i c) = w at hq ⊢
    rw [← Int.mul_assoc p, ← hq, Int.sub_mul, Int.add_mul, Int.mul_assoc w]
  constructor
  · intro h i hi
    have h0 : p ∣ sumTo (fun j => M t j * x j) n := by have := h t ht; rwa [e] at this
    by_cases hit : i = t
    · subst hit; exact h0
    · have h1 := Int.dvd_sub (h i hi) (d i hit)
      have h2 : p ∣ (p - M i c) * sumTo (fun j => M t j * x j) n := Int.dvd_trans h0 ⟨_, Int.mul_comm _ _⟩
      have h3 := Int.dvd_sub h1 h2
      have e2 : sumTo (fun j => elimR p M t c i j * x j) n - (sumTo (fun j => elimR p M t c i j * x j) n - (sumTo (fun j => M i j * x j) n + (p - M i c) * sumTo (fun j => M t j * x j) n)) - (p - M i c) * sumTo (fun j => M t j * x j) n = sumTo (fun j => M i j * x j) n := by omega
      rwa [e2] at h3
  · intro h i hi
    by_cases hit : i = t
    · subst hit; rw [e]; exact h i hi
    · have h2 : p ∣ (p - M i c) * sumTo (fun j => M t j * x j) n := Int.dvd_trans (h t ht) ⟨_, Int.mul_comm _ _⟩
      have h3 := Int.dvd_add (d i hit) (Int.dvd_add (h i hi) h2)
      have e2 : sumTo (fun j => elimR p M t c i j * x j) n - (sumTo (fun j => M i j * x j) n + (p - M i c) * sumTo (fun j => M t j * x j) n) + (sumTo (fun j => M i j * x j) n + (p - M i c) * sumTo (fun j => M t j * x j) n) = sumTo (fun j => elimR p M t c i j * x j) n := by omega
      rwa [e2] at h3
theorem Red.start {p : Int} {m n : Nat} {A : Mat} (h : Resid p m n A) : Red p m n A 0 A [] :=
  ⟨h, by simp, List.Pairwise.nil, (fun q hq => by cases hq), (fun i hi => by simp at hi), (fun k _ _ j hj => by omega), (fun i hi => by simp at hi), fun x => Iff.rfl⟩
theorem Red.skip {p : Int} {m n : Nat} {A : Mat} {c : Nat} {M : Mat} {piv : List Nat} (R : Red p m n A c M piv) (h : ∀ k, piv.length ≤ k → k < m → M k c = 0) : Red p m n A (c + 1) M piv :=
  ⟨R.res, R.le, R.asc, (fun q hq => by have := R.lt q hq; omega), R.one, (fun k h1 h2 j hj => by
    by_cases e : j = c
    · subst e; exact h k h1 h2
    · exact R.low k h1 h2 j (by omega)), R.lead, R.same⟩
theorem Red.step {p : Int} (hp : primeP p) {m n : Nat} {A : Mat} {c : Nat} {M : Mat} {piv : List Nat} (R : Red p m n A c M piv) (hc : c < n) : Red p m n A (c + 1) (colS p m c (M, piv)).1 (colS p m c (M, piv)).2 := by
  unfold colS
  simp only
  by_cases h1 : piv.length < m
  case neg => rw [if_neg h1]; exact R.skip fun k hk1 hk2 => by omega
  rw [if_pos h1]
  obtain ⟨k1, k2, k3, k4⟩ := nzF_spec M c (m - piv.length) piv.length
  by_cases h2 : nzF M c (m - piv.length) piv.length < m
  case neg => rw [if_neg h2]; exact R.skip fun k hk1 hk2 => k3 k hk1 (by omega)
  rw [if_pos h2]
  replace k4 := k4 (by omega)
  generalize hk : nzF M c (m - piv.length) piv.length = k at k1 k2 k3 k4 h2
  generalize ht : piv.length = t at *
  have hS : swapR M t k t = M k := by simp [swapR]
  have hSx : ∀ i, i < t → swapR M t k i = M i := fun i hi => by simp [swapR, show i ≠ t by omega, show i ≠ k by omega]
  have hSres : Resid p m n (swapR M t k) := fun i hi j hj => by
    by_cases e : i = t
    · subst e; rw [hS]; exact R.res k h2 j hj
    · by_cases e2 : i = k
      · have : swapR M t k i = M t := by unfold swapR; rw [if_neg e, if_pos e2]
        rw [this]; exact R.res t h1 j hj
      · have : swapR M t k i = M i := by unfold swapR; rw [if_neg e, if_neg e2]
        rw [this]; exact R.res i hi j hj
  have hSlow : ∀ i, t ≤ i → i < m → ∀ j, j < c → swapR M t k i j = 0 := fun i hi1 hi2 j hj => by
    by_cases e : i = t
    · subst e; rw [hS]; exact R.low k (by omega) h2 j hj
    · by_cases e2 : i = k
      · have : swapR M t k i = M t := by unfold swapR; rw [if_neg e, if_pos e2]
        rw [this]; exact R.low t (by omega) h1 j hj
      · have : swapR M t k i = M i := by unfold swapR; rw [if_neg e, if_neg e2]
        rw [this]; exact R.low i (by omega) hi2 j hj
  have hv := R.res k h2 c hc
  rw [hS]
  obtain ⟨i1, i2, i3, i4, i5⟩ := invP_spec hp k4 hv.1 hv.2
  generalize invP p (M k c) = v at i1 i2 i3 i4 i5
  have hpp : 1 < p := by rcases hp with rfl | rfl | rfl <;> decide
  have N1 : ∀ x, nul p m n (swapR M t k) x ↔ nul p m n A x := fun x => (nul_swap h1 h2 x).trans (R.same x)
  generalize hM1 : swapR M t k = M1 at hS hSx hSres hSlow N1
  have N2 : ∀ x, nul p m n (scaleR p M1 t v) x ↔ nul p m n A x := fun x => (nul_scale i1 x).trans (N1 x)
  have s1 : ∀ j, scaleR p M1 t v t j = M k j * v % p := fun j => by simp [scaleR, hS]
  have s2 : ∀ i, i ≠ t → ∀ j, scaleR p M1 t v i j = M1 i j := fun i hi j => by simp [scaleR, hi]
  generalize hM2 : scaleR p M1 t v = M2 at N2 s1 s2
  have N3 : ∀ x, nul p m n (elimR p M2 t c) x ↔ nul p m n A x := fun x => (nul_elim h1 x).trans (N2 x)
  have t1 : ∀ j, elimR p M2 t c t j = M k j * v % p := fun j => by simp [elimR, s1]
  have t2 : ∀ i, i ≠ t → ∀ j, elimR p M2 t c i j = (M1 i j + (p - M1 i c) * (M k j * v % p)) % p := fun i hi j => by simp [elimR, hi, s1, s2]
  generalize hM3 : elimR p M2 t c = M3 at N3 t1 t2
  have tc : M3 t c = 1 := by rw [t1]; exact i1
  have tj : ∀ j, j < c → M3 t j = 0 := fun j hj => by
    rw [t1, R.low k (by omega) h2 j hj]; simp
  have ic : ∀ i, i ≠ t → i < m → M3 i c = 0 := fun i hi him => by
    rw [t2 i hi, i1, Int.mul_one, show M1 i c + (p - M1 i c) = p by omega, Int.emod_self]
  have ij : ∀ i, i ≠ t → i < m → ∀ j, j < c → M3 i j = M1 i j := fun i hi him j hj => by
    rw [t2 i hi, R.low k (by omega) h2 j hj]
    have := hSres i him j (by omega)
    simp only [Int.zero_mul, Int.zero_emod, Int.mul_zero, Int.add_zero]
    exact Int.emod_eq_of_lt this.1 this.2
  have hlen : (piv ++ [c]).length = t + 1 := by simp [ht]
  show Red p m n A (c + 1) M3 (piv ++ [c])
  refine ⟨?_, by omega, ?_, ?_, ?_, ?_, ?_, N3⟩
  · intro i him j hj
    by_cases e : i = t
    · subst e; rw [t1]; exact ⟨Int.emod_nonneg _ (by omega), Int.emod_lt_of_pos _ (by omega)⟩
    · rw [t2 i e]; exact ⟨Int.emod_nonneg _ (by omega), Int.emod_lt_of_pos _ (by omega)⟩
  · refine List.pairwise_append.2 ⟨R.asc, by simp, fun a ha b hb => ?_⟩
    have := R.lt a ha
    have : b = c := by simpa using hb
    omega
  · intro q hq
    rcases List.mem_append.1 hq with h | h
    · have := R.lt q h; omega
    · have : q = c := by simpa using h
      omega
  · intro i hi q hqm
    by_cases e : i = t
    · have e1 : (piv ++ [c])[i] = c := by simp [e, ht]
      rw [e1]
      by_cases e2 : q = t
      · rw [e2, tc, if_pos (by omega)]
      · rw [ic q e2 hqm, if_neg (by omega)]
    · have hi' : i < piv.length := by omega
      have e1 : (piv ++ [c])[i] = piv[i] := by rw [List.getElem_append_left hi']
      rw [e1]
      have hlt := R.lt _ (List.getElem_mem hi')
      by_cases e2 : q = t
      · rw [e2, tj _ hlt, if_neg (by omega)]
      · rw [ij q e2 hqm _ hlt]
        rcases Nat.lt_or_ge q t with h | h
        · rw [hSx q h]; exact R.one i hi' q hqm
        · rw [hSlow q h hqm _ hlt, if_neg (by omega)]
  · intro q hq1 hq2 j hj
    have e2 : q ≠ t := by omega
    by_cases e : j = c
    · rw [e]; exact ic q e2 hq2
    · rw [ij q e2 hq2 j (by omega)]; exact hSlow q (by omega) hq2 j (by omega)
  · intro i hi j hj
    by_cases e : i = t
    · have e1 : (piv ++ [c])[i] = c := by simp [e, ht]
      rw [e1] at hj
      rw [e]; exact tj j hj
    · have hi' : i < piv.length := by omega
      have e1 : (piv ++ [c])[i] = piv[i] := by rw [List.getElem_append_left hi']
      rw [e1] at hj
      have hlt := R.lt _ (List.getElem_mem hi')
      rw [ij i e (by omega) j (by omega), hSx i (by omega)]
      exact R.lead i hi' j hj
theorem gsTo_red {p : Int} (hp : primeP p) {m n : Nat} {A : Mat} (h : Resid p m n A) : ∀ c, c ≤ n → Red p m n A c (gsTo p m A c).1 (gsTo p m A c).2
  | 0, _ => Red.start h
  | c + 1, hc => by rw [gsTo_succ]; exact (gsTo_red hp h c (by omega)).step hp (by omega)
end
section
open Go.ChangeShapes Go.WideShapes Go.ChangeAt Go.RowKit
theorem Red.inj {p : Int} {m n : Nat} {A M : Mat} {c : Nat} {piv : List Nat} (R : Red p m n A c M piv) {i j : Nat} (hi : i < piv.length) (hj : j < piv.length) (h : piv[i] = piv[j]) : i = j := by
  have hs := List.pairwise_iff_getElem.1 R.asc
  rcases Nat.lt_trichotomy i j with e | e | e
  · have := hs i j hi hj e; omega
  · exact e
  · have := hs j i hj hi e; omega
/-- the vector with 1 at c and at the leading columns what takes column c away -/
def ker (M : Mat) (piv : List Nat) (c : Nat) (j : Nat) : Int := (if j = c then 1 else 0) + sumTo (fun i => if piv.getD i 0 = j then - M i c else 0) piv.length
theorem ker_piv {p : Int} {m n : Nat} {A M : Mat} {d : Nat} {piv : List Nat} (R : Red p m n A d M piv) {c i : Nat} (hc : c ∉ piv) (hi : i < piv.length) : ker M piv c piv[i] = - M i c := by
  have h1 : piv[i] ≠ c := fun e => hc (e ▸ List.getElem_mem hi)
  rw [ker, if_neg h1, Int.zero_add, sumTo_one hi]
  · rw [if_pos (by simp [List.getD, hi])]
  · intro j hj hne
    rw [if_neg fun e => hne ?_]
    rw [List.getD, List.getElem?_eq_getElem hj] at e
    exact R.inj hj hi e
theorem ker_out {M : Mat} {piv : List Nat} {c j : Nat} (hj : j ∉ piv) : ker M piv c j = if j = c then 1 else 0 := by
  rw [ker, sumTo_zero fun i hi => ?_, Int.add_zero]
  rw [if_neg fun e => hj ?_]
  rw [List.getD, List.getElem?_eq_getElem hi] at e
  exact e ▸ List.getElem_mem hi
theorem ker_sum {p : Int} {m n : Nat} {A M : Mat} {d : Nat} {piv : List Nat} (R : Red p m n A d M piv) {N : Nat → Int} {c i : Nat} (hcn : c < n) (hdn : d ≤ n) (hc : c ∉ piv) (hi : i < piv.length)
    (hN : ∀ k (h : k < piv.length), N piv[k] = if i = k then 1 else 0) : sumTo (fun j => N j * ker M piv c j) n = N c - M i c := by
  have hpi : piv[i] < n := by have := R.lt _ (List.getElem_mem hi); omega
  have e : sumTo (fun j => N j * ker M piv c j) n = sumTo (fun j => (if j = c then N c else 0) + (if j = piv[i] then - M i c else 0)) n := by
    refine sumTo_congr fun j hj => ?_
    by_cases h1 : j ∈ piv
    · obtain ⟨k, hk, rfl⟩ := List.getElem_of_mem h1
      rw [ker_piv R hc hk, hN k hk, if_neg (show ¬ piv[k] = c from fun e => hc (e ▸ List.getElem_mem hk))]
      by_cases h2 : i = k
      · subst h2; simp
      · rw [if_neg h2, if_neg fun e => h2 (R.inj hk hi e).symm]; simp
    · rw [ker_out h1, if_neg (show ¬ j = piv[i] from fun e => h1 (e ▸ List.getElem_mem hi))]
      by_cases h2 : j = c
      · subst h2; simp
      · simp [h2]
  rw [e, sumTo_add, sumTo_one hcn (fun j _ h => if_neg h), sumTo_one hpi (fun j _ h => if_neg h), if_pos rfl, if_pos rfl]
  omega
theorem ker_nul {p : Int} {m n : Nat} {A M : Mat} {piv : List Nat} (R : Red p m n A n M piv) {c : Nat} (hcn : c < n) (hc : c ∉ piv) : nul p m n M (ker M piv c) := by
  intro i hi
  by_cases h : i < piv.length
  · rw [ker_sum R hcn (Nat.le_refl _) hc h (N := M i) (fun k hk => R.one k hk i hi), Int.sub_self]
    exact ⟨0, by simp⟩
  · rw [sumTo_zero fun j hj => by rw [R.low i (by omega) hi j hj, Int.zero_mul]]
    exact ⟨0, by simp⟩
theorem ker_above {p : Int} {m n : Nat} {A M : Mat} {d : Nat} {piv : List Nat} (R : Red p m n A d M piv) {c j : Nat} (hc : c ∉ piv) (hj : c < j) : ker M piv c j = 0 := by
  by_cases h1 : j ∈ piv
  · obtain ⟨k, hk, rfl⟩ := List.getElem_of_mem h1
    rw [ker_piv R hc hk, R.lead k hk c hj]; rfl
  · rw [ker_out h1, if_neg (by omega)]
theorem ker_at {M : Mat} {piv : List Nat} {c : Nat} (hc : c ∉ piv) : ker M piv c c = 1 := by rw [ker_out hc, if_pos rfl]
/-- a leading column: no killed vector ends there with 1 -/
theorem lead_no {p : Int} (hp : primeP p) {m n : Nat} {A M : Mat} {piv : List Nat} (R : Red p m n A n M piv) {i : Nat} (hi : i < piv.length) {x : Nat → Int} (hx : nul p m n M x) (h1 : x piv[i] = 1) (h0 : ∀ j, piv[i] < j → j < n → x j = 0) : False := by
  have hpi := R.lt _ (List.getElem_mem hi)
  have him : i < m := by have := R.le; omega
  have h := hx i him
  rw [sumTo_one hpi fun j hj hne => ?_] at h
  · rw [h1, R.one i hi i him, if_pos rfl] at h
    have h2 := Int.le_of_dvd (by omega) h
    rcases hp with rfl | rfl | rfl <;> omega
  · rcases Nat.lt_or_gt_of_ne hne with e | e
    · rw [R.lead i hi j e, Int.zero_mul]
    · rw [h0 j e hj, Int.mul_zero]
theorem asc_eq : ∀ {a b : List Nat}, a.Pairwise (· < ·) → b.Pairwise (· < ·) → (∀ x, x ∈ a ↔ x ∈ b) → a = b
  | [], [], _, _, _ => rfl
  | [], y :: b, _, _, h => by have := (h y).2 List.mem_cons_self; simp at this
  | x :: a, [], _, _, h => by have := (h x).1 List.mem_cons_self; simp at this
  | x :: a, y :: b, ha, hb, h => by
    rw [List.pairwise_cons] at ha hb
    have hxy : x = y := by
      rcases List.mem_cons.1 ((h x).1 List.mem_cons_self) with e | e
      · exact e
      · rcases List.mem_cons.1 ((h y).2 List.mem_cons_self) with e2 | e2
        · exact e2.symm
        · have := ha.1 y e2; have := hb.1 x e; omega
    subst hxy
    rw [asc_eq ha.2 hb.2 fun z => ?_]
    constructor
    · intro hz
      rcases List.mem_cons.1 ((h z).1 (List.mem_cons_of_mem _ hz)) with e | e
      · have := ha.1 z hz; omega
      · exact e
    · intro hz
      rcases List.mem_cons.1 ((h z).2 (List.mem_cons_of_mem _ hz)) with e | e
      · have := hb.1 z hz; omega
      · exact e
theorem red_piv {p : Int} (hp : primeP p) {m m' n : Nat} {A A' M M' : Mat} {piv piv' : List Nat} (R : Red p m n A n M piv) (R' : Red p m' n A' n M' piv') (hs : ∀ x, nul p m n A x ↔ nul p m' n A' x) : piv = piv' := by
  refine asc_eq R.asc R'.asc fun c => ⟨fun h => ?_, fun h => ?_⟩
  · by_cases h2 : c ∈ piv'
    · exact h2
    · exfalso
      obtain ⟨i, hi, rfl⟩ := List.getElem_of_mem h
      have hcn := R.lt _ h
      have hk := (R.same _).2 ((hs _).2 ((R'.same _).1 (ker_nul R' hcn h2)))
      exact lead_no hp R hi hk (ker_at h2) fun j hj _ => ker_above R' h2 hj
  · by_cases h2 : c ∈ piv
    · exact h2
    · exfalso
      obtain ⟨i, hi, rfl⟩ := List.getElem_of_mem h
      have hcn := R'.lt _ h
      have hk := (R'.same _).2 ((hs _).1 ((R.same _).1 (ker_nul R hcn h2)))
      exact lead_no hp R' hi hk (ker_at h2) fun j hj _ => ker_above R h2 hj
theorem red_row {p : Int} (hp : primeP p) {m m' n : Nat} {A A' M M' : Mat} {piv : List Nat} (R : Red p m n A n M piv) (R' : Red p m' n A' n M' piv) (hs : ∀ x, nul p m n A x ↔ nul p m' n A' x) {i j : Nat} (hi : i < piv.length) (hj : j < n) : M i j = M' i j := by
  have him : i < m := by have := R.le; omega
  have him' : i < m' := by have := R'.le; omega
  by_cases h : j ∈ piv
  · obtain ⟨k, hk, rfl⟩ := List.getElem_of_mem h
    rw [R.one k hk i him, R'.one k hk i him']
  · have hk := (R'.same _).2 ((hs _).1 ((R.same _).1 (ker_nul R hj h))) i him'
    rw [ker_sum R hj (Nat.le_refl _) h hi (N := M' i) (fun k hk => R'.one k hk i him')] at hk
    have b1 := R.res i him j hj
    have b2 := R'.res i him' j hj
    obtain ⟨q, hq⟩ := hk
    rcases Int.lt_trichotomy q 0 with e | e | e
    · have : p * q ≤ p * (-1) := Int.mul_le_mul_of_nonneg_left (by omega) (by omega)
      omega
    · subst e; omega
    · have : p * 1 ≤ p * q := Int.mul_le_mul_of_nonneg_left (by omega) (by omega)
      omega
end
section
open Go.ChangeShapes Go.WideShapes Go.ChangeAt Go.RowKit
/-- one row: its value, the element's type, the cells of an element, the number of elements, the cells -/
structure Row where
  v : Value
  e : Nat
  sz : Nat
  n : Nat
  cs : List Value
/-- since W0 nothing old has changed; the rows L are the call's own, each in a block of its own -/
structure Held (W0 w : World) (L : List Row) : Prop where
  bel : Below W0.heap.size W0 w
  own : ∀ r ∈ L, w.ownsRow W0.heap.size r.e r.sz r.v r.n r.cs
  apart : L.Pairwise fun r r' => ∀ g, r.v.ownBlock = some g → r'.v.ownBlock ≠ some g
theorem Held.start (w : World) : Held w w [] := ⟨Below.refl _ _, (fun r h => by cases h), List.Pairwise.nil⟩
theorem Held.le {W0 w : World} {L : List Row} (H : Held W0 w L) : W0.heap.size ≤ w.heap.size := H.bel.size
theorem Held.grow {W0 w w' : World} {L : List Row} (H : Held W0 w L) (h : Below w.heap.size w w') : Held W0 w' L := by
  refine ⟨H.bel.trans (h.mono H.le), fun r hr => ?_, H.apart⟩
  have ho := H.own r hr
  refine ⟨ho.1, ?_⟩
  rcases ho.2 with h2 | ⟨g, cap, cur, h1, h2, h3, h4⟩
  · exact .inl h2
  · exact .inr ⟨g, cap, cur, h1, h2, by rw [h.block g (Array.getElem?_eq_some_iff.1 h3).1]; exact h3, h4⟩
theorem Held.ext {W0 w : World} {L : List Row} (H : Held W0 w L) (x : Ext) : Held W0 (ext w x) L := H.grow (Below_ext w x)
theorem Held.to {W0 w w' : World} {L : List Row} (H : Held W0 w L) (h : ∃ x, w' = Proofs.YtmehmpammjcnkabGreat.ext w x) : Held W0 w' L := H.grow (bel_of_ext h)
/-- a row that was made since w -/
theorem Held.push {W0 w w' : World} {L : List Row} {v : Value} {e sz n : Nat} {cs : List Value} (H : Held W0 w L) (h : Below w.heap.size w w') (ho : w'.ownsRow w.heap.size e sz v n cs) : Held W0 w' (⟨v, e, sz, n, cs⟩ :: L) := by
  have H' := H.grow h
  refine ⟨H'.bel, fun r hr => ?_, List.Pairwise.cons (fun r hr g hg hg' => ?_) H'.apart⟩
  · rcases List.mem_cons.1 hr with rfl | hr
    · exact own_base ho H.le
    · exact H'.own r hr
  · have h1 := (ho.lt g hg).1
    have h2 := ((H.own r hr).lt g hg').2
    omega
theorem Held.drop {W0 w : World} {L : List Row} {r : Row} (H : Held W0 w (r :: L)) : Held W0 w L :=
  ⟨H.bel, fun r' h => H.own r' (List.mem_cons_of_mem _ h), H.apart.of_cons⟩
theorem Held.sl {W0 w : World} {L : List Row} (H : Held W0 w L) {v : Value} {e sz n : Nat} {cs : List Value} (h : (⟨v, e, sz, n, cs⟩ : Row) ∈ L) : Sl w sz v n cs := Sl_own (H.own _ h)
theorem Held.old {W0 w : World} {L : List Row} (H : Held W0 w L) {v : Value} {sz n : Nat} {cs : List Value} (h : Sl W0 sz v n cs) : Sl w sz v n cs := h.mono H.bel
/-- the first row's cells have changed, nothing else -/
theorem Held.write {W0 w w' : World} {L : List Row} {r : Row} {cs : List Value} (H : Held W0 w (r :: L)) (hg : w.grownBy w' r.v.ownBlock) (ho : w'.ownsRow W0.heap.size r.e r.sz r.v r.n cs) : Held W0 w' (⟨r.v, r.e, r.sz, r.n, cs⟩ :: L) := by
  have hr0 := H.own r List.mem_cons_self
  refine ⟨H.bel.grown hg H.le (fun k hk => (hr0.lt k hk).1), fun r' hr' => ?_, ?_⟩
  · rcases List.mem_cons.1 hr' with rfl | hr'
    · exact ho
    · refine (H.own r' (List.mem_cons_of_mem _ hr')).kept hg ?_
      cases hb : r'.v.ownBlock with
      | none => exact .inl rfl
      | some g =>
        refine .inr fun e => ?_
        exact (List.pairwise_cons.1 H.apart).1 r' hr' g e.symm hb
  · exact List.Pairwise.cons (List.pairwise_cons.1 H.apart).1 H.apart.of_cons
theorem Held.swap {W0 w : World} {L : List Row} {r r' : Row} (H : Held W0 w (r :: r' :: L)) : Held W0 w (r' :: r :: L) := by
  refine ⟨H.bel, fun q hq => H.own q (by simp only [List.mem_cons] at hq ⊢; rcases hq with h | h | h <;> simp [h]), ?_⟩
  have h := H.apart
  rw [List.pairwise_cons, List.pairwise_cons] at h
  rw [List.pairwise_cons, List.pairwise_cons]
  refine ⟨fun q hq g hg hg' => ?_, fun q hq => h.1 q (List.mem_cons_of_mem _ hq), h.2.2⟩
  rcases List.mem_cons.1 hq with rfl | hq
  · exact h.1 r' List.mem_cons_self g hg' hg
  · exact h.2.1 q hq g hg hg'
/-- any row to the front -/
theorem Held.front {W0 w : World} {L L' : List Row} (H : Held W0 w L) (p : L.Perm L') : Held W0 w L' := by
  refine ⟨H.bel, fun q hq => H.own q (p.mem_iff.2 hq), ?_⟩
  refine (p.pairwise_iff fun {r r'} h g hg hg' => ?_).1 H.apart
  exact h g hg' hg
theorem Held.fresh {W0 w1 w' : World} {v : Value} {e sz n : Nat} {cs : List Value} (ho : w'.ownsRow w1.heap.size e sz v n cs) (h1 : ∃ x, w1 = Proofs.YtmehmpammjcnkabGreat.ext W0 x) (h2 : ∃ x, w' = Proofs.YtmehmpammjcnkabGreat.ext w1 x) : Held W0 w' [⟨v, e, sz, n, cs⟩] :=
  ((Held.start W0).to h1).push (bel_of_ext h2) ho
theorem Held.append {W0 w w' : World} {L : List Row} {r : Row} {v' : Value} {n' : Nat} {cs' : List Value} (H : Held W0 w (r :: L)) (hg : w.grownBy w' r.v.ownBlock) (ho : w'.ownsRow W0.heap.size r.e r.sz v' n' cs')
    (hat : v'.ownBlock = r.v.ownBlock ∨ v'.ownBlock = some w.heap.size ∨ v'.ownBlock = none) : Held W0 w' (⟨v', r.e, r.sz, n', cs'⟩ :: L) := by
  have hr0 := H.own r List.mem_cons_self
  refine ⟨H.bel.grown hg H.le (fun k hk => (hr0.lt k hk).1), fun r' hr' => ?_, List.Pairwise.cons (fun r' hr' g hg1 hg2 => ?_) H.apart.of_cons⟩
  · rcases List.mem_cons.1 hr' with rfl | hr'
    · exact ho
    · refine (H.own r' (List.mem_cons_of_mem _ hr')).kept hg ?_
      cases hb : r'.v.ownBlock with
      | none => exact .inl rfl
      | some g =>
        refine .inr fun e => ?_
        exact (List.pairwise_cons.1 H.apart).1 r' hr' g e.symm hb
  · have h1 := ((H.own r' (List.mem_cons_of_mem _ hr')).lt g hg2).2
    simp only at hg1
    rcases hat with h | h | h
    · exact (List.pairwise_cons.1 H.apart).1 r' hr' g (by rw [← h]; exact hg1) hg2
    · rw [h] at hg1; cases hg1; omega
    · rw [h] at hg1; cases hg1
/-- rows that a callee has made -/
theorem Held.join {W0 w w' : World} {L L' : List Row} (H : Held W0 w L) (K : Held w w' L') : Held W0 w' (L' ++ L) := by
  have H' := H.grow K.bel
  refine ⟨H'.bel, fun r hr => ?_, List.pairwise_append.2 ⟨K.apart, H'.apart, fun r hr r' hr' g hg hg' => ?_⟩⟩
  · rcases List.mem_append.1 hr with hr | hr
    · exact own_base (K.own r hr) H.le
    · exact H'.own r hr
  · have h1 := ((K.own r hr).lt g hg).1
    have h2 := ((H.own r' hr').lt g hg').2
    omega
/-- an empty slice that was made -/
theorem Held.empty {W0 w : World} {L : List Row} (H : Held W0 w L) (e sz : Nat) : Held W0 (w.alloc (.cells #[] e)) (⟨.slice (some ⟨w.heap.size, 0, none⟩) 0 0, e, sz, 0, []⟩ :: L) :=
  H.push ((Below.refl _ _).alloc (Nat.le_refl _) _) (World.ownsRow_made w #[] 0 (Nat.le_refl _) (by simp [maxLen]) (by simp))
theorem perm_pull {α : Type} {r : α} : ∀ (L : List α) (i : Nat), L[i]? = some r → L.Perm (r :: L.eraseIdx i)
  | [], i, h => by simp at h
  | x :: L, 0, h => by
    have : x = r := by simpa using h
    subst this
    exact List.Perm.refl _
  | x :: L, i + 1, h => by
    have := perm_pull L i (by simpa using h)
    exact (List.Perm.cons x this).trans (List.Perm.swap _ _ _)
/-- row i to the front -/
theorem Held.pull {W0 w : World} {L : List Row} {r : Row} (H : Held W0 w L) (i : Nat) (h : L[i]? = some r) : Held W0 w (r :: L.eraseIdx i) := H.front (perm_pull L i h)
/-- what append and make ask of a slice type t with elements of type e -/
structure Elem (P : Program) (t e size bytes : Nat) (z : Value) : Prop where
  ut : P.underlying t = some (.slice e)
  info : (P.info? e).map (fun i => (i.zero, i.size, i.bytes)) = some (some z, size, bytes)
  zs : z.cells.size = size
  pos : 0 < size
/-! ### append -/
theorem run_append_sl {P : Program} (w : World) (base : Nat) (t ty e : TypeId) (z : Value) (size bytes : Nat) (E : Elem P t e size bytes z) (v u : Value) (n m : Nat) (xs news : List Value) (hown : w.ownsRow base e size v n xs) (hsl : Sl w size u m news) (h1 : ∀ u ∈ news, u.oneCell' = true)
    (h63 : n + m ≤ maxLen) (hbytes : (n + m) * bytes ≤ 140737488355328) (hbase : base ≤ w.heap.size) :
    ∃ v' w', (Builtin.append_ #[t, t] ty #[v, u]).run P w = .ok v' w' ∧ w'.ownsRow base e size v' (n + m) (xs ++ news) ∧ w.grownBy w' v.ownBlock ∧ (v'.ownBlock = v.ownBlock ∨ v'.ownBlock = some w.heap.size ∨ v'.ownBlock = none) := by
  obtain ⟨i, hi, hz, hsize, hby⟩ := info_parts E.info
  have ht := E.ut
  obtain ⟨a, b, o, cap, rfl, s1, s2, s3, s4, s5⟩ := hsl
  rcases Nat.eq_zero_or_pos m with rfl | hm
  · have hnews : news = [] := List.eq_nil_of_length_eq_zero (by simpa using s3)
    subst hnews
    have hr : (Builtin.append_ #[t, t] ty #[v, .slice a 0 cap]).run P w = .ok v w := by
      have e0 : (Builtin.firstCells size 0 (.slice a 0 cap)).run P w = .ok #[] w := by
        cases a <;> simp [Builtin.firstCells, loadCells, loadCellsFrom]
      rcases hown.2 with ⟨rfl, rfl⟩ | ⟨g, cap', cur, rfl, _, _, hnc, _⟩
      · simp [Builtin.append_, run_underlying ht, sizeOf, typeInfo, hi, Builtin.lenOf, hsize, e0]
      · simp [Builtin.append_, run_underlying ht, sizeOf, typeInfo, hi, Builtin.lenOf, hsize, e0, hnc, storeCells]
    exact ⟨v, w, hr, by simpa using hown, World.grownBy.refl _ _, .inl rfl⟩
  · obtain ⟨rfl, hb⟩ := s4 hm
    obtain ⟨g, cap', w', h2, h3, h4, h5, _⟩ := run_append_lies (P := P) w t ty base e i z size bytes ht hi hz hsize hby E.zs E.pos v n xs hown ⟨b, o, none⟩ m cap news s3 (fun j u hu => by
      have hj := (List.getElem?_eq_some_iff.1 hu).1
      rw [Go.WideShapes.add_plain, s5 j hj, hu]) h1 hm h63 hbytes hbase w.heap.size rfl
    refine ⟨_, w', h2, h3, h4, ?_⟩
    rcases h5 with h5 | h5
    · exact .inl h5.symm
    · exact .inr (.inl (by rw [h5]; rfl))
theorem wpList_append_held {P : Program} {W0 : World} {w : World} {L : List Row} {ops : Array Oper} {rest : List Oper} {o : Oper} {a : Act} {Q : Exit → Act → World → Prop} (hgd : o.guard = none) (s x : Operand) (t : TypeId)
    (ho : o.op = .call { callee := .builtin .append, args := #[s, x], argTypes := #[t, t] })
    {e size bytes : Nat} {z : Value} (E : Elem P t e size bytes z) {v u : Value} {n m : Nat} {xs news : List Value} (H : Held W0 w (⟨v, e, size, n, xs⟩ :: L)) (hs : a.eval s = v) (hx : a.eval x = u) (hsl : Sl w size u m news) (h1 : ∀ u ∈ news, u.oneCell' = true)
    (h63 : n + m ≤ maxLen) (hbytes : (n + m) * bytes ≤ 140737488355328)
    (h : ∀ v' w', Held W0 w' (⟨v', e, size, n + m, xs ++ news⟩ :: L) → wpList P ops Q rest (a.put o.dst v') w') : wpList P ops Q (o :: rest) a w := by
  refine wpList_plain hgd fun K hK => ?_
  obtain ⟨v', w', hr, h2, h3, h4⟩ := run_append_sl (P := P) w W0.heap.size t o.type e z size bytes E v u n m xs news (H.own _ List.mem_cons_self) hsl h1 h63 hbytes H.le
  unfold Oper.wp execOp
  simp only [ho, resolve, invoke, builtin, Sem.run_bind, Sem.run_pure, Result.andThen_ok, List.map_toArray, List.map_cons, List.map_nil, hs, hx, hr]
  exact hK _ _ (h v' w' (H.append h3 h2 h4))
theorem wpList_make_held {P : Program} {W0 : World} {w : World} {L : List Row} {ops : Array Oper} {rest : List Oper} {o : Oper} {a : Act} {Q : Exit → Act → World → Prop}
    (hg : o.guard = none) (l c : Operand) (t : TypeId) (hop : o.op = Op.makeSlice t l c) {e size bytes : Nat} {z : Value} (E : Elem P t e size bytes z) (H : Held W0 w L)
    (kl kc : IntKind) (N C : Int) (n : Nat) (hl : a.eval l = .int kl N) (hc : a.eval c = .int kc C) (hL : N = (n : Int)) (hC : C = (n : Int)) (b2 : bytes * n ≤ 281474976710656) (b3 : n ≤ maxLen)
    (hK : ∀ w', Held W0 w' (⟨.slice (some ⟨w.heap.size, 0, none⟩) n n, e, size, n, (madeCells z.cells (n * size)).toList⟩ :: L) → wpList P ops Q rest (a.put o.dst (.slice (some ⟨w.heap.size, 0, none⟩) n n)) w') :
    wpList P ops Q (o :: rest) a w := by
  obtain ⟨i, hi, hz, hsize, hby⟩ := info_parts E.info
  refine wpList_make_full w hg l c t hop w.heap.size e i z size E.ut hi hz hsize kl kc N C n hl hc hL hC (by rw [hby]; exact b2) b3 (Nat.le_refl _) fun w' h1 h2 => hK w' (H.push ((Below.refl _ _).grown h2 (Nat.le_refl _) (fun k hk => by cases hk)) h1)
theorem Sl_new1 (w : World) (u : Value) (t : TypeId) : Sl (w.alloc (.cells #[u] t)) 1 (.slice (some ⟨w.heap.size, 0, none⟩) 1 1) 1 [u] := by
  refine ⟨_, w.heap.size, 0, 1, rfl, Nat.le_refl _, by simp [maxLen], rfl, fun _ => ⟨rfl, by simp⟩, fun i hi => ?_⟩
  rw [Nat.zero_add, World.cell?_alloc_at _ _ _ _ rfl]
  simp
/-- a new block of cells, read as a slice -/
theorem Sl_new (w : World) (cs : Array Value) (t : TypeId) (sz n : Nat) (h : cs.size = n * sz) (hn : n ≤ maxLen) (hsz : 0 < sz) : Sl (w.alloc (.cells cs t)) sz (.slice (some ⟨w.heap.size, 0, none⟩) n n) n cs.toList := by
  refine ⟨_, w.heap.size, 0, n, rfl, Nat.le_refl _, hn, by simpa using h, fun _ => ⟨rfl, by simp⟩, fun i hi => ?_⟩
  rw [Nat.zero_add, World.cell?_alloc_at _ _ _ _ rfl]
  simp
end
section
open Go.ChangeShapes Go.WideShapes Go.ChangeAt Go.RowKit
theorem infoInt : (Tryz.prog.info? 3).map (fun i => i.size) = some 1 := by kernel_rfl
theorem infoInt3 : (Tryz.prog.info? 3).map (fun i => (i.zero, i.size, i.bytes)) = some (some (.int .i64 0), 1, 8) := by kernel_rfl
theorem IntsAt.opn {w : World} {v : Value} {xs : List Int} (h : IntsAt w v xs) :
    ∃ a b o cap, v = .slice a xs.length cap ∧ xs.length ≤ cap ∧ xs.length ≤ 9223372036854775807 ∧ cap ≤ 9223372036854775807 ∧ ∀ k, k < xs.length → Old w b ∧ (∀ w', (Instr.indexAt 22 (.slice a xs.length cap) (.int .i64 k)).run Tryz.prog w' = .ok (.pointer (some ⟨b, o + k, none⟩)) w') ∧
      w.cell? ⟨b, o + k, none⟩ = some (.int .i64 (nth xs k)) := by
  obtain ⟨a, b, o, cap, rfl, h1, h2, h3, h4⟩ := Sl.idx h Tryz.underlying22 infoInt
  refine ⟨a, b, o, cap, rfl, h1, h2, h3, fun k hk => ?_⟩
  obtain ⟨g1, g2, g3⟩ := h4 k hk
  refine ⟨g1, fun w' => by have := g2 w'; rwa [Nat.mul_one] at this, ?_⟩
  have := g3 0 (by omega)
  rw [Nat.mul_one, Nat.add_zero, Nat.add_zero] at this
  rw [this, getElem_of_nth hk]
theorem slice_to (a : Option Addr) (n cap k : Nat) (h : k ≤ cap) (w : World) :
    (Instr.slice 22 (.slice a n cap) none (some (.int .i64 k)) none).run Tryz.prog w = .ok (.slice a k cap) w := by
  obtain ⟨i, h1, h2⟩ := Option.map_eq_some_iff.1 infoInt
  have e : (fun x : Addr => x.add 0) = id := by funext x; simp [Addr.add]
  simp [Instr.slice, run_underlying Tryz.underlying22, Instr.sliceBounds, Instr.sliceBound, asIntOf, h, sizeOf, typeInfo, h1, e]
theorem IntsAt.take {w : World} {a : Option Addr} {n cap : Nat} {l : List Int} (h : IntsAt w (.slice a n cap) l) {k : Nat} (hk : k ≤ l.length) : IntsAt w (.slice a k cap) (l.take k) := by
  obtain ⟨a', b, o, cap', e, h1, h2, h3, h4, h5⟩ := h
  simp only [Value.slice.injEq] at e
  obtain ⟨rfl, rfl, rfl⟩ := e
  have hl : (l.take k).length = k := by simp; omega
  refine ⟨a, b, o, cap, by rw [hl], by omega, h2, by simp, fun hn => h4 (by omega), fun i hi => ?_⟩
  have hi' : i < k := by simp at hi; omega
  rw [h5 i (by simp; omega), List.map_take, List.getElem?_take, if_pos hi']
theorem nth_take {l : List Int} {k i : Nat} (h : i < k) : nth (l.take k) i = nth l i := by simp [nth, List.getD, h]
end
section
open Go.ChangeShapes Go.WideShapes Go.ChangeAt Go.RowKit
/-- the call's own row: a fresh slice -/
abbrev OwnI (w : World) (B : Nat) (v : Value) (xs : List Int) : Prop := w.ownsRow B 3 1 v xs.length (xs.map iv)
theorem IntsAt_own {w : World} {B : Nat} {v : Value} {xs : List Int} (h : OwnI w B v xs) : IntsAt w v xs := Sl_own h
theorem OwnI.ext {w : World} {B : Nat} {v : Value} {xs : List Int} (h : OwnI w B v xs) (x : Ext) : OwnI (ext w x) B v xs := by
  refine ⟨h.1, ?_⟩
  rcases h.2 with h2 | ⟨g, cap, cur, h1, h2, h3, h4⟩
  · exact .inl h2
  · exact .inr ⟨g, cap, cur, h1, h2, by rw [heap_ext w x (Array.getElem?_eq_some_iff.1 h3).1]; exact h3, h4⟩
/-- k elements written, the rest noughts -/
def part (xs : List Int) (k : Nat) : List Value := (xs.take k).map iv ++ List.replicate (xs.length - k) (iv 0)
theorem part_zero (xs : List Int) : part xs 0 = List.replicate xs.length (iv 0) := by simp [part]
theorem part_all (xs : List Int) : part xs xs.length = xs.map iv := by simp [part]
theorem part_step (xs : List Int) (k : Nat) (h : k < xs.length) : (part xs k).set k (iv (nth xs k)) = part xs (k + 1) := by
  apply List.ext_getElem?
  intro i
  simp only [part, List.getElem?_set, List.getElem?_append, List.getElem?_map, List.getElem?_take, List.length_map, List.length_take, List.length_append, List.length_replicate, List.getElem?_replicate]
  by_cases hi : k = i
  · subst hi
    simp [h, nth, show k < min (k + 1) xs.length by omega, show k < min k xs.length + (xs.length - k) by omega]
  · simp only [hi, if_false]
    by_cases h2 : i < k
    · simp [show i < min k xs.length by omega, show i < min (k + 1) xs.length by omega, h2, show i < k + 1 by omega]
    · simp only [show ¬ i < min k xs.length by omega, show ¬ i < min (k + 1) xs.length by omega, if_false]
      by_cases h3 : i < xs.length
      · rw [if_pos (by omega), if_pos (by omega)]
      · rw [if_neg (by omega), if_neg (by omega)]
theorem part_length (xs : List Int) (k : Nat) (h : k ≤ xs.length) : (part xs k).length = xs.length := by simp [part]; omega
theorem part_cell (xs : List Int) (k : Nat) (h : k < xs.length) : ∃ u, (part xs k)[k]? = some u := by
  have := part_length xs k (by omega)
  exact ⟨(part xs k)[k], by simp [this, h]⟩
theorem madeOne (z : Value) (n : Nat) : (madeCells #[z] n).toList = List.replicate n z := by
  apply List.ext_getElem?
  intro i
  by_cases h : i < n <;> simp [madeCells, h, Nat.mod_one]
theorem toIntS_any (xs : List Int) (v : Value) (w : World) (h : IntsAt w v xs) (hs : xs.length ≤ 1099511627776) :
    Calls Tryz.prog 29 #[v] w fun e w' => ∃ v', e = .returned v' ∧ (∃ x, w' = ext w x) ∧ OwnI w' w.heap.size v' xs := by
  obtain ⟨a, b, o, cap, rfl, hc1, hc2, hc3, hcell⟩ := h.opn
  obtain ⟨i0, hi, hz0, hz1, hz2⟩ := info_parts infoInt3
  have HZ2 := Lib.hid hz2
  have HZ1 := Lib.hid hz1
  have HZ0 := Lib.hid hz0
  have HI := Lib.hid hi
  clear hz0 hz1 hz2 hi
  go_enter Tryz.func29, Tryz.ntmps29
  go_wp2_with (first | (at_make; refine wpList_make_full _ rfl _ _ 22 rfl w.heap.size 3 i0 (.int .i64 0) 1 Tryz.underlying22 HI.out HZ0.out HZ1.out .i64 .i64 _ _ xs.length rfl rfl rfl rfl (by rw [HZ2.out]; omega) (by unfold maxLen; omega) (Nat.le_refl _) ?_; intro w1 hown hgrow))
  have hz : (madeCells (Value.int .i64 0).cells (xs.length * 1)).toList = part xs 0 := by rw [part_zero, Nat.mul_one]; exact madeOne _ _
  rw [hz] at hown
  have hbel : Below w.heap.size w w1 := (Below.refl _ _).grown hgrow (Nat.le_refl _) (fun k hk => by cases hk)
  clear hz hgrow
  go_loopw [4] (fun i wr => ∃ k : Nat, k ≤ xs.length ∧ i = .int .i64 k ∧ wr.ownsRow w.heap.size 3 1 (.slice (some ⟨w.heap.size, 0, none⟩) xs.length xs.length) xs.length (part xs k) ∧ Below w.heap.size w wr) (fun i _ => xs.length - (intOf i).toNat)
  case atStart => exact ⟨0, Nat.zero_le _, rfl, hown, hbel⟩
  case round =>
    clear hown hbel
    obtain ⟨k, hk, rfl, hown, hbel⟩ := hrel
    by_cases hlt : k < xs.length
    · obtain ⟨hb, hi, hck⟩ := hcell k hlt
      clear hcell
      have hck2 : wr.cell? ⟨b, o + k, none⟩ = some (.int .i64 (nth xs k)) := by rw [hbel.cell (p := ⟨b, o + k, none⟩) hb.lt]; exact hck
      obtain ⟨u, hu⟩ := part_cell xs k hlt
      have hc0 : wr.cell? ⟨w.heap.size, k, none⟩ = some u := by rw [hown.cellAt k (by omega), hu]
      have hf0 : wr.frozen? ⟨w.heap.size, k, none⟩ = false := hown.frozenAt k
      have hst := hown.stored k (iv (nth xs k))
      rw [part_step xs k hlt] at hst
      have HST := Lib.hid hst
      have HOW := Lib.hid hown
      clear hst hown hu
      go_wp2_with fail
      go_roundw
      case rel => exact ⟨k + 1, hlt, int_succ k, HST.out.1, hbel.setCell (Nat.le_refl _) _⟩
      case measure => simp [intOf]; omega
    · go_wp2_with fail
      go_ret
      obtain rfl : k = xs.length := by omega
      rw [part_all] at hown
      obtain ⟨x, rfl⟩ := ext_of hbel
      exact ⟨_, rfl, ⟨x, rfl⟩, hown⟩
def eqInts (a b : List Int) : Bool := decide (a.length = b.length) && allTo (fun k => nth a k == nth b k) a.length
theorem eqInts_self (a : List Int) : eqInts a a = true := by simp [eqInts, allTo_true]
theorem eqInts_eq {a b : List Int} (h : eqInts a b = true) : a = b := by
  simp [eqInts, allTo_true, nth] at h
  apply List.ext_getElem h.1
  intro i h1 h2
  have := h.2 i h1
  simpa [h1, h2] using this
theorem eqIntS_any (xs ys : List Int) (v u : Value) (w : World) (h : IntsAt w v xs) (h' : IntsAt w u ys) :
    Calls Tryz.prog 11 #[v, u] w fun e w' => e = .returned (.bool (eqInts xs ys)) ∧ ∃ x, w' = ext w x := by
  obtain ⟨a, b, o, cap, rfl, hc1, hc2, hc3, hcell⟩ := h.opn
  obtain ⟨a', b', o', cap', rfl, hc1', hc2', hc3', hcell'⟩ := h'.opn
  by_cases hl : xs.length = ys.length
  · have hne : ((xs.length : Int) != ys.length) = false := by simp [hl]
    have HL := Lib.hid hl
    have hle : xs.length ≤ ys.length := by omega
    clear hl
    go_enter Tryz.func11, Tryz.ntmps11
    go_wp2_with fail
    go_loopw [5] (fun i wr => ∃ k : Nat, k ≤ xs.length ∧ i = .int .i64 k ∧ allTo (fun k => nth xs k == nth ys k) k = true ∧ ∃ x, wr = ext w x) (fun i _ => xs.length - (intOf i).toNat)
    case atStart => exact ⟨0, Nat.zero_le _, rfl, rfl, (by repeat (first | exact ext_refl _ | (with_reducible assumption) | refine ext_ext' ?_ _ | refine ext_alloc' ?_ _ | refine ext_drew' ?_))⟩
    case round =>
      obtain ⟨k, hk, rfl, hall, x, rfl⟩ := hrel
      have HA := Lib.hid hall
      clear hall
      by_cases hlt : k < xs.length
      · obtain ⟨hb, hi, hck⟩ := hcell k hlt
        obtain ⟨hb', hi', hck'⟩ := hcell' k (by omega)
        clear hcell hcell'
        cases hq : nth xs k == nth ys k
        all_goals
          have hq' : (nth xs k != nth ys k) = !(nth xs k == nth ys k) := rfl
          rw [hq] at hq'
          go_wp2_with fail
          refine wp_region_ext_lit (by kernel_rfl) (by kernel_rfl) ?_
          repeat (go_big_quiet_step (fail))
          refine wpQuiet_nil ?_
          intro _ hwq
          obtain ⟨xq, hwq⟩ := hwq
          subst hwq
          go_wp2_with fail
        · go_ret
          exact ⟨ret_bool (by simp only [eqInts, allTo_false (p := fun k => nth xs k == nth ys k) hlt hq, Bool.and_false]), (by repeat (first | exact ext_refl _ | (with_reducible assumption) | refine ext_ext' ?_ _ | refine ext_alloc' ?_ _ | refine ext_drew' ?_))⟩
        · go_roundw
          case rel => exact ⟨k + 1, hlt, int_succ k, allTo_succ HA.out hq, (by repeat (first | exact ext_refl _ | (with_reducible assumption) | refine ext_ext' ?_ _ | refine ext_alloc' ?_ _ | refine ext_drew' ?_))⟩
          case measure => simp [intOf]; omega
      · go_wp2_with fail
        go_ret
        obtain rfl : k = xs.length := by omega
        exact ⟨ret_bool (by rw [eqInts, HA.out, decide_eq_true HL.out]; rfl), (by repeat (first | exact ext_refl _ | (with_reducible assumption) | refine ext_ext' ?_ _ | refine ext_alloc' ?_ _ | refine ext_drew' ?_))⟩
  · have hne : ((xs.length : Int) != ys.length) = true := by simp; omega
    have HL := Lib.hid hl
    clear hl
    go_enter Tryz.func11, Tryz.ntmps11
    go_wp2_with fail
    go_ret
    exact ⟨ret_bool (by simp [eqInts, HL.out]), (by repeat (first | exact ext_refl _ | (with_reducible assumption) | refine ext_ext' ?_ _ | refine ext_alloc' ?_ _ | refine ext_drew' ?_))⟩
end
section
open Go.ChangeShapes Go.WideShapes Go.ChangeAt Go.RowKit
def marks (k : Int) (n : Nat) : List Int := (List.range n).map fun i : Nat => k + (i : Int)
theorem marks_len (k : Int) (n : Nat) : (marks k n).length = n := by simp [marks]
theorem marks_nth (k : Int) (n i : Nat) (h : i < n) : nth (marks k n) i = k + i := by simp [marks, nth, List.getD, h]
/-- j elements marked -/
def marked (xs : List Int) (k : Int) (j : Nat) : List Value := (marks k j).map iv ++ (xs.drop j).map iv
theorem marked_zero (xs : List Int) (k : Int) : marked xs k 0 = xs.map iv := by simp [marked, marks]
theorem marked_all (xs : List Int) (k : Int) : marked xs k xs.length = (marks k xs.length).map iv := by simp [marked]
theorem marked_step (xs : List Int) (k : Int) (j : Nat) (h : j < xs.length) : (marked xs k j).set j (iv (k + j)) = marked xs k (j + 1) := by
  have e1 : ((marks k j).map iv).length = j := by simp [marks]
  have e2 : (marks k (j + 1)) = marks k j ++ [k + (j : Int)] := by simp [marks, List.range_succ]
  have e3 : xs.drop j = xs[j] :: xs.drop (j + 1) := List.drop_eq_getElem_cons h
  have e4 : (xs.drop j).map iv = iv xs[j] :: (xs.drop (j + 1)).map iv := by rw [e3]; rfl
  rw [marked, marked, e2, e4, List.set_append_right _ _ (by omega), e1, Nat.sub_self, List.set_cons_zero, List.map_append, List.append_assoc]
  rfl
theorem marked_cell (xs : List Int) (k : Int) (j : Nat) (h : j < xs.length) : ∃ u, (marked xs k j)[j]? = some u := by
  have : j < (marked xs k j).length := by simp [marked, marks]; omega
  exact ⟨_, List.getElem?_eq_getElem this⟩
theorem grown_trans {a b c : World} {row : Option Nat} (h : a.grownBy b row) (k : b.grownBy c row) : a.grownBy c row :=
  ⟨k.os.trans h.os, k.tape.trans h.tape, k.output.trans h.output, Nat.le_trans h.size k.size, fun i hi hne => (k.block i (Nat.lt_of_lt_of_le hi h.size) hne).trans (h.block i hi hne)⟩
theorem markIntS_any (xs : List Int) (v : Value) (k : Int) (B : Nat) (w : World) (ho : OwnI w B v xs) (h0 : 0 ≤ k) (h1 : k ≤ 1099511627776) (hs : xs.length ≤ 1099511627776) :
    Calls Tryz.prog 16 #[v, .int .i64 k] w fun e w' => e = .returned (.int .i64 (k + xs.length)) ∧ w.grownBy w' v.ownBlock ∧ OwnI w' B v (marks k xs.length) := by
  have hlen : (marks k xs.length).length = xs.length := marks_len k _
  rcases ho.2 with ⟨rfl, hn⟩ | ⟨g, cap, cur, rfl, hB, hg, hnc, hcm, hcs, htk⟩
  · have hx : xs = [] := List.eq_nil_of_length_eq_zero hn
    subst hx
    go_enter Tryz.func16, Tryz.ntmps16
    go_wp2_with fail
    go_loop [1, 5] (fun kk i => i = .int .i64 0 ∧ kk = .int .i64 k) (fun _ _ => 0)
    case atStart => exact ⟨rfl, rfl⟩
    case round =>
      obtain ⟨rfl, rfl⟩ := hrel
      go_wp2_with fail
      go_ret
      exact ⟨ret_int (by simp), World.grownBy.refl _ _, by simpa [marks] using ho⟩
  · have HO := Lib.hid ho
    have hz := marked_zero xs k
    have hB' : Old w g := ⟨(Array.getElem?_eq_some_iff.1 hg).1⟩
    unfold maxLen at hcm
    clear hcs htk hg ho
    go_enter Tryz.func16, Tryz.ntmps16
    go_wp2_with fail
    go_loopw [1, 5] (fun kk i wr => ∃ j : Nat, j ≤ xs.length ∧ i = .int .i64 j ∧ kk = .int .i64 (k + j) ∧ wr.ownsRow B 3 1 (.slice (some ⟨g, 0, none⟩) xs.length cap) xs.length (marked xs k j) ∧ w.grownBy wr (some g)) (fun _ i _ => xs.length - (intOf i).toNat)
    case atStart => exact ⟨0, Nat.zero_le _, rfl, by simp, by rw [hz]; exact HO.out, World.grownBy.refl _ _⟩
    case round =>
      clear hz
      obtain ⟨j, hj, rfl, rfl, hown, hgr⟩ := hrel
      by_cases hlt : j < xs.length
      · obtain ⟨u, hu⟩ := marked_cell xs k j hlt
        have hc0 : wr.cell? ⟨g, j, none⟩ = some u := by rw [hown.cellAt j (by omega), hu]
        have hf0 : wr.frozen? ⟨g, j, none⟩ = false := hown.frozenAt j
        have hst := hown.stored j (iv (k + j))
        rw [marked_step xs k j hlt] at hst
        have HST := Lib.hid hst
        have HG := Lib.hid hgr
        clear hst hown hu hgr
        go_wp2_with fail
        go_roundw
        case rel => exact ⟨j + 1, hlt, int_succ j, by congr 1; omega, HST.out.1, grown_trans HG.out HST.out.2⟩
        case measure => simp [intOf]; omega
      · obtain rfl : j = xs.length := by omega
        rw [marked_all] at hown
        go_wp2_with fail
        go_ret
        exact ⟨rfl, hgr, by rw [OwnI, hlen]; exact hown⟩
theorem heldIntS_any (n : Nat) (v : Value) (k : Int) (w : World) (h : IntsAt w v (marks k n)) (h0 : 0 ≤ k) (h1 : k ≤ 1099511627776) (hs : n ≤ 1099511627776) :
    Calls Tryz.prog 17 #[v, .int .i64 k] w fun e w' => e = .returned (.int .i64 (k + n)) ∧ ∃ x, w' = ext w x := by
  obtain ⟨a, b, o, cap, rfl, hc1, hc2, hc3, hcell⟩ := h.opn
  have hlen : (marks k n).length = n := marks_len k _
  rw [hlen] at hc1 hc2 hcell h ⊢
  have HC := Lib.hid hcell
  clear hlen hcell
  go_enter Tryz.func17, Tryz.ntmps17
  go_wp2_with fail
  go_loopw [1, 5] (fun kk i wr => ∃ j : Nat, j ≤ n ∧ i = .int .i64 j ∧ kk = .int .i64 (k + j) ∧ ∃ x, wr = ext w x) (fun _ i _ => n - (intOf i).toNat)
  case atStart => exact ⟨0, Nat.zero_le _, rfl, by simp, (by repeat (first | exact ext_refl _ | (with_reducible assumption) | refine ext_ext' ?_ _ | refine ext_alloc' ?_ _ | refine ext_drew' ?_))⟩
  case round =>
    obtain ⟨j, hj, rfl, rfl, x, rfl⟩ := hrel
    by_cases hlt : j < n
    · obtain ⟨hb, hi, hck⟩ := HC.out j hlt
      rw [marks_nth k n j hlt] at hck
      have hq : (k + (j : Int) != k + j) = false := by simp
      go_wp2_with fail
      go_roundw
      case rel => exact ⟨j + 1, hlt, int_succ j, by congr 1; omega, (by repeat (first | exact ext_refl _ | (with_reducible assumption) | refine ext_ext' ?_ _ | refine ext_alloc' ?_ _ | refine ext_drew' ?_))⟩
      case measure => simp [intOf]; omega
    · obtain rfl : j = n := by omega
      go_wp2_with fail
      go_ret
      exact ⟨rfl, (by repeat (first | exact ext_refl _ | (with_reducible assumption) | refine ext_ext' ?_ _ | refine ext_alloc' ?_ _ | refine ext_drew' ?_))⟩
abbrev rowI (v : Value) (xs : List Int) : Row := ⟨v, 3, 1, xs.length, xs.map iv⟩
theorem elemInt : Elem Tryz.prog 22 3 1 8 (.int .i64 0) := ⟨Tryz.underlying22, infoInt3, rfl, by decide⟩
theorem Held.ints {W0 w : World} {L : List Row} (H : Held W0 w L) {v : Value} {xs : List Int} (h : rowI v xs ∈ L) : IntsAt w v xs := H.sl h
theorem Held.ints0 {W0 w : World} {L : List Row} {v : Value} {xs : List Int} (H : Held W0 w (rowI v xs :: L)) : IntsAt w v xs := H.sl List.mem_cons_self
theorem Held.oldI {W0 w : World} {L : List Row} (H : Held W0 w L) {v : Value} {xs : List Int} (h : IntsAt W0 v xs) : IntsAt w v xs := h.mono H.bel
theorem markIntS_held {W0 : World} {L : List Row} (xs : List Int) (v : Value) (k : Int) (w : World) (H : Held W0 w (rowI v xs :: L)) (h0 : 0 ≤ k) (h1 : k ≤ 1099511627776) (hs : xs.length ≤ 1099511627776) :
    Calls Tryz.prog 16 #[v, .int .i64 k] w fun e w' => e = .returned (.int .i64 (k + xs.length)) ∧ Held W0 w' (rowI v (marks k xs.length) :: L) :=
  (markIntS_any xs v k W0.heap.size w (H.own _ List.mem_cons_self) h0 h1 hs).mono fun e w' ⟨he, hg, ho⟩ => ⟨he, by
    have hl := marks_len k xs.length
    have := H.write (cs := (marks k xs.length).map iv) hg (by rw [OwnI, hl] at ho; exact ho)
    rw [rowI, hl]; exact this⟩
end
section
open Go.ChangeShapes Go.WideShapes Go.ChangeAt Go.RowKit
theorem Held.nilI {W0 w : World} {L : List Row} (H : Held W0 w L) : Held W0 w (⟨.slice none 0 0, 3, 1, 0, []⟩ :: L) := ⟨H.bel, (fun r hr => by
  rcases List.mem_cons.1 hr with rfl | hr
  · exact World.ownsRow_nil _ _ _ _
  · exact H.own r hr), List.Pairwise.cons (fun r hr g hg => by simp [Value.ownBlock] at hg) H.apart⟩
theorem one_lit (x : Int) : ∀ u ∈ [Value.int .i64 x], u.oneCell' = true := by intro u hu; simp at hu; subst hu; rfl
theorem Held.snoc {W0 w : World} {L : List Row} {v : Value} {xs : List Int} {x : Int} (H : Held W0 w (⟨v, 3, 1, xs.length + 1, xs.map iv ++ [.int .i64 x]⟩ :: L)) : Held W0 w (rowI v (xs ++ [x]) :: L) := by
  have e : (xs ++ [x]).map iv = xs.map iv ++ [.int .i64 x] := by simp [iv]
  rw [rowI, e, List.length_append]; exact H
theorem Held.first {W0 w : World} {L : List Row} {r : Row} (H : Held W0 w (r :: L)) : Held W0 w [r] := ⟨H.bel, fun q hq => by simp at hq; subst hq; exact H.own _ List.mem_cons_self, by simp⟩
theorem Held.rowV {W0 w : World} {L : List Row} {v : Value} {xs : List Int} (H : Held W0 w (rowI v xs :: L)) : ∃ a c, v = .slice a xs.length c := own_slice (H.own _ List.mem_cons_self)
theorem Held.base {W0 W1 w : World} {L : List Row} (hb : Below W0.heap.size W0 W1) (H : Held W1 w L) : Held W0 w L :=
  ⟨hb.trans (H.bel.mono hb.size), fun r hr => own_base (H.own r hr) hb.size, H.apart⟩
theorem Held.unbox {w wr : World} {o : Obj} {L : List Row} (H : Held (w.alloc o) wr L) : Held w wr L := H.base ((Below.refl _ _).alloc (Nat.le_refl _) _)
theorem Held.box2 {w wr : World} {u v : Value} {t : TypeId} {L : List Row} (H : Held (w.alloc (.cells #[u, v] t)) wr L) : wr.cell? ⟨w.heap.size, 0, none⟩ = some u ∧ wr.cell? ⟨w.heap.size, 1, none⟩ = some v := by
  have h := fun i => H.bel.cell (p := ⟨w.heap.size, i, none⟩) (by rw [World.size_alloc]; simp)
  exact ⟨by rw [h, World.cell?_alloc_at _ _ _ _ rfl]; rfl, by rw [h, World.cell?_alloc_at _ _ _ _ rfl]; rfl⟩
theorem Held.boxOld {w wr : World} {o : Obj} {L : List Row} (H : Held (w.alloc o) wr L) : Old wr w.heap.size := ⟨by have := H.bel.size; rw [World.size_alloc] at this; omega⟩
def IntsPost (w : World) (xs : List Int) (e : Ending) (w' : World) : Prop := ∃ v', e = .returned v' ∧ Held w w' [rowI v' xs]
theorem IntsPost.nil {w w' : World} {xs : List Int} (h : xs = []) (hx : ∃ x, w' = ext w x) : IntsPost w xs (.returned (.slice none 0 0)) w' := by
  subst h; exact ⟨_, rfl, (((Held.start w).to hx).nilI)⟩
theorem IntsPost.empty {w w' : World} {xs : List Int} {v : Value} {L : List Row} (h : xs = []) (H : Held w w' (⟨v, 3, 1, 0, []⟩ :: L)) : IntsPost w xs (.returned v) w' := by
  subst h; exact ⟨_, rfl, H.first⟩
theorem IntsPost.got {w w' : World} {xs ys : List Int} {v : Value} {L : List Row} (h : xs = ys) (H : Held w w' (rowI v ys :: L)) : IntsPost w xs (.returned v) w' := by
  subst h; exact ⟨_, rfl, H.first⟩
theorem takeI_held {W0 w w' : World} {L : List Row} {v : Value} {xs : List Int} (H : Held W0 w L) (hx : ∃ x, w' = ext w x) (K : OwnI w' w.heap.size v xs) : Held W0 w' (rowI v xs :: L) := H.push (bel_of_ext hx) K
theorem Held.take1 {W0 w w' : World} {L : List Row} {v : Value} {xs : List Int} (H : Held W0 w L) (K : Held w w' [rowI v xs]) : Held W0 w' (rowI v xs :: L) := H.join K
theorem wpList_make_any {P : Program} {W0 : World} {w : World} {L : List Row} {ops : Array Oper} {rest : List Oper} {o : Oper} {a : Act} {Q : Exit → Act → World → Prop}
    (hg : o.guard = none) (l c : Operand) (t : TypeId) (hop : o.op = Op.makeSlice t l c) {e size bytes : Nat} {z : Value} (E : Elem P t e size bytes z) (H : Held W0 w L)
    (kl kc : IntKind) (N C : Int) (n : Nat) (hl : a.eval l = .int kl N) (hc : a.eval c = .int kc C) (hL : N = (n : Int)) (hC : C = (n : Int)) (b2 : bytes * n ≤ 281474976710656) (b3 : n ≤ maxLen)
    (hK : ∀ g w', Held W0 w' (⟨.slice (some ⟨g, 0, none⟩) n n, e, size, n, (madeCells z.cells (n * size)).toList⟩ :: L) → wpList P ops Q rest (a.put o.dst (.slice (some ⟨g, 0, none⟩) n n)) w') :
    wpList P ops Q (o :: rest) a w := wpList_make_held hg l c t hop E H kl kc N C n hl hc hL hC b2 b3 (hK _)
theorem Held.oldRow {W0 w : World} {L : List Row} {g n cap : Nat} {xs : List Int} (H : Held W0 w (rowI (.slice (some ⟨g, 0, none⟩) n cap) xs :: L)) : Old w g := ⟨((H.own _ List.mem_cons_self).lt g rfl).2⟩
/-! ### a drawn region whose first operations only read what was there when the call began, and that then appends -/
theorem wp_region_heldB {P : Program} {W0 : World} {id : Nat} {Q : Exit → Act → World → Prop} {a : Act} {w : World} {ops : Array Oper} (_ : Below W0.heap.size W0 w) (hm : P.follows .mixedOrders = true)
    (h : wpAnyH P .any ops Q (fun w' => Below W0.heap.size W0 w') ops.size (Array.replicate ops.size false) a w.drew) : (Code.region id ops true).wp P Q a w :=
  wp_region_held hm h
theorem takeB {P : Program} {ops : Array Oper} {Q : Exit → Act → World → Prop} {W0 : World} {i : Nat} {oi : Oper} {v : Value} {fuel : Nat} {listed : Array Bool} {a : Act} {w : World} (hi : ops[i]? = some oi)
    (hs : Region.noSelect ops = true) (hf : Region.free .any ops listed i = true) (hr : (Region.ready .any ops listed).contains i = true)
    (hQ : ∀ c a w, Q (.panic c) (a.put oi.dst v) w → Q (.panic c) a w) (hw : Region.wanted oi (yielded ops a.tmps) = true) (hy : ∀ w', Below W0.heap.size W0 w' → (execOp a.eval oi).run P w' = .ok (.value v) w') (hS : Below W0.heap.size W0 w)
    (h : wpAnyH P .any ops Q (fun w' => Below W0.heap.size W0 w') fuel (listed.setIfInBounds i true) (a.put oi.dst v) w) : wpAnyH P .any ops Q (fun w' => Below W0.heap.size W0 w') (fuel + 1) listed a w :=
  wpAnyH_take hi hs hf hr hQ (.inl ⟨hw, hy⟩) hS h
theorem below_box2 {w wr : World} {u v : Value} {t : TypeId} (hb : Below (w.alloc (.cells #[u, v] t)).heap.size (w.alloc (.cells #[u, v] t)) wr) : wr.cell? ⟨w.heap.size, 0, none⟩ = some u ∧ wr.cell? ⟨w.heap.size, 1, none⟩ = some v :=
  Held.box2 (L := []) ⟨hb, (fun r h => by cases h), List.Pairwise.nil⟩
theorem opwp_append_held {P : Program} {W0 : World} {w : World} {L : List Row} {o : Oper} {a : Act} {K : Act → World → Prop} {Q : Exit → Act → World → Prop} (s x : Operand) (t : TypeId)
    (ho : o.op = .call { callee := .builtin .append, args := #[s, x], argTypes := #[t, t] })
    {e size bytes : Nat} {z : Value} (E : Elem P t e size bytes z) {v u : Value} {n m : Nat} {xs news : List Value} (H : Held W0 w (⟨v, e, size, n, xs⟩ :: L)) (hs : a.eval s = v) (hx : a.eval x = u) (hsl : Sl w size u m news) (h1 : ∀ u ∈ news, u.oneCell' = true)
    (h63 : n + m ≤ maxLen) (hbytes : (n + m) * bytes ≤ 140737488355328)
    (h : ∀ v' w', Held W0 w' (⟨v', e, size, n + m, xs ++ news⟩ :: L) → K (a.put o.dst v') w') : Oper.wp P o a w K Q := by
  obtain ⟨v', w', hr, h2, h3, h4⟩ := run_append_sl (P := P) w W0.heap.size t o.type e z size bytes E v u n m xs news (H.own _ List.mem_cons_self) hsl h1 h63 hbytes H.le
  unfold Oper.wp execOp
  simp only [ho, resolve, invoke, builtin, Sem.run_bind, Sem.run_pure, Result.andThen_ok, List.map_toArray, List.map_cons, List.map_nil, hs, hx, hr]
  exact h v' w' (H.append h3 h2 h4)
end
section
open Go.ChangeShapes Go.WideShapes Go.ChangeAt Go.RowKit
def tab (n : Nat) (f : Nat → Int) : List Int := (List.range n).map f
theorem tab_len (n : Nat) (f : Nat → Int) : (tab n f).length = n := by simp [tab]
theorem tab_nth {n : Nat} (f : Nat → Int) {k : Nat} (h : k < n) : nth (tab n f) k = f k := by simp [tab, nth, List.getD, h]
theorem tab_congr {n : Nat} {f g : Nat → Int} (h : ∀ k, k < n → f k = g k) : tab n f = tab n g := List.map_congr_left fun k hk => h k (List.mem_range.1 hk)
def upd (f : Nat → Int) (k : Nat) (x : Int) : Nat → Int := fun i => if i = k then x else f i
theorem tab_set (n : Nat) (f : Nat → Int) (k : Nat) (x : Int) : (tab n f).set k x = tab n (upd f k x) := by
  apply List.ext_getElem?
  intro i
  by_cases h : i < n
  · by_cases e : k = i
    · subst e; simp [tab, upd, h]
    · rw [List.getElem?_set_ne e]; simp [tab, upd, h, Ne.symm e]
  · rw [List.getElem?_eq_none (by simp [tab]; omega), List.getElem?_eq_none (by simp [tab]; omega)]
theorem tab_zero (n : Nat) : List.replicate n (iv 0) = (tab n fun _ => 0).map iv := by
  simp [tab, List.map_const']
theorem tab_set_iv (n : Nat) (f : Nat → Int) (k : Nat) (x : Int) : ((tab n f).map iv).set k (iv x) = (tab n (upd f k x)).map iv := by rw [← List.map_set, tab_set]
theorem Held.cellO {W0 w : World} {L : List Row} (H : Held W0 w L) {b o : Nat} {v : Value} (hb : Old W0 b) (hc : W0.cell? ⟨b, o, none⟩ = some v) : w.cell? ⟨b, o, none⟩ = some v := by
  rw [H.bel.cell (p := ⟨b, o, none⟩) hb.lt]; exact hc
theorem Held.cellRow {W0 w : World} {L : List Row} {g cap n : Nat} {f : Nat → Int} (H : Held W0 w (rowI (.slice (some ⟨g, 0, none⟩) n cap) (tab n f) :: L)) {j : Nat} (hj : j < n) : w.cell? ⟨g, j, none⟩ = some (.int .i64 (f j)) ∧ w.frozen? ⟨g, j, none⟩ = false := by
  have ho := H.own _ List.mem_cons_self
  simp only [tab_len] at ho
  refine ⟨?_, ho.frozenAt j⟩
  rw [ho.cellAt j (by omega)]
  simp [tab, hj, iv]
theorem Held.storeRow {W0 w : World} {L : List Row} {g cap n : Nat} {f : Nat → Int} (H : Held W0 w (rowI (.slice (some ⟨g, 0, none⟩) n cap) (tab n f) :: L)) (j : Nat) (x : Int) : Held W0 (w.setCell ⟨g, j, none⟩ (.int .i64 x)) (rowI (.slice (some ⟨g, 0, none⟩) n cap) (tab n (upd f j x)) :: L) := by
  have H' : Held W0 w ((⟨.slice (some ⟨g, 0, none⟩) n cap, 3, 1, n, (tab n f).map iv⟩ : Row) :: L) := by
    simp only [rowI, tab_len] at H
    exact H
  have hst := (H'.own _ List.mem_cons_self).stored j (.int .i64 x)
  have h4 := H'.write hst.2 hst.1
  have e : ((tab n f).map iv).set j (.int .i64 x) = (tab n (upd f j x)).map iv := tab_set_iv n f j x
  rw [e] at h4
  rw [rowI, tab_len]
  exact h4
theorem Held.zeros {W0 w : World} {L : List Row} {g n : Nat} (H : Held W0 w (⟨.slice (some ⟨g, 0, none⟩) n n, 3, 1, n, (madeCells (Value.int .i64 0).cells (n * 1)).toList⟩ :: L)) : Held W0 w (rowI (.slice (some ⟨g, 0, none⟩) n n) (tab n fun _ => 0) :: L) := by
  have hz : (madeCells (Value.int .i64 0).cells (n * 1)).toList = (tab n fun _ => 0).map iv := by rw [Nat.mul_one]; exact (madeOne _ _).trans (tab_zero _)
  rw [hz] at H
  rw [rowI, tab_len]; exact H
theorem tab_nths (xs : List Int) : tab xs.length (nth xs) = xs := by
  apply List.ext_getElem
  · simp [tab]
  · intro i h1 h2
    simp [tab, nth, List.getD, h2]
abbrev rowT (g N : Nat) (f : Nat → Int) : Row := rowI (.slice (some ⟨g, 0, none⟩) N N) (tab N f)
end
section
open Go.ChangeShapes Go.WideShapes Go.ChangeAt Go.RowKit
def vAt (vs : List Value) (k : Nat) : Value := vs.getD k undef
def rAt (xss : List (List Int)) (k : Nat) : List Int := xss.getD k []
def RowsAt (w : World) (v : Value) (xss : List (List Int)) : Prop :=
  ∃ vs : List Value, Sl w 1 v xss.length vs ∧ ∀ k, k < xss.length → IntsAt w (vAt vs k) (rAt xss k)
theorem RowsAt.mono {w w' : World} {v : Value} {xss : List (List Int)} (h : RowsAt w v xss) (hb : Below w.heap.size w w') : RowsAt w' v xss := by
  obtain ⟨vs, h1, h2⟩ := h
  exact ⟨vs, h1.mono hb, fun k hk => (h2 k hk).mono hb⟩
theorem infoInts : (Tryz.prog.info? 22).map (fun i => i.size) = some 1 := by kernel_rfl
theorem infoInts3 : (Tryz.prog.info? 22).map (fun i => (i.zero, i.size, i.bytes)) = some (some (.slice none 0 0), 1, 24) := by kernel_rfl
theorem elemInts : Elem Tryz.prog 47 22 1 24 (.slice none 0 0) := ⟨Tryz.underlying47, infoInts3, rfl, by decide⟩
theorem RowsAt.opn {w : World} {v : Value} {xss : List (List Int)} (h : RowsAt w v xss) :
    ∃ a b o cap vs, v = .slice a xss.length cap ∧ xss.length ≤ cap ∧ xss.length ≤ 9223372036854775807 ∧ cap ≤ 9223372036854775807 ∧ ∀ k, k < xss.length → Old w b ∧ (∀ w', (Instr.indexAt 47 (.slice a xss.length cap) (.int .i64 k)).run Tryz.prog w' = .ok (.pointer (some ⟨b, o + k, none⟩)) w') ∧
      w.cell? ⟨b, o + k, none⟩ = some (vAt vs k) ∧ IntsAt w (vAt vs k) (rAt xss k) := by
  obtain ⟨vs, h0, hr⟩ := h
  have hlen : vs.length = xss.length := by obtain ⟨_, _, _, _, _, _, _, h3, _⟩ := h0; simpa using h3
  obtain ⟨a, b, o, cap, rfl, h1, h2, h3, h4⟩ := Sl.idx h0 Tryz.underlying47 infoInts
  refine ⟨a, b, o, cap, vs, rfl, h1, h2, h3, fun k hk => ?_⟩
  obtain ⟨g1, g2, g3⟩ := h4 k hk
  refine ⟨g1, fun w' => by have := g2 w'; rwa [Nat.mul_one] at this, ?_, hr k hk⟩
  have := g3 0 (by omega)
  rw [Nat.mul_one, Nat.add_zero, Nat.add_zero] at this
  rw [this, vAt, List.getD, List.getElem?_eq_getElem (by omega)]
  rfl
/-- inner rows -/
def rowsI (vs : List Value) (xss : List (List Int)) : List Row := List.zipWith rowI vs xss
theorem rowsI_snoc (vs : List Value) (xss : List (List Int)) (v : Value) (xs : List Int) (h : vs.length = xss.length) : rowsI (vs ++ [v]) (xss ++ [xs]) = rowsI vs xss ++ [rowI v xs] := by
  simp [rowsI, List.zipWith_append h]
theorem rowsI_mem {vs : List Value} {xss : List (List Int)} {k : Nat} (h : vs.length = xss.length) (hk : k < xss.length) : rowI (vAt vs k) (rAt xss k) ∈ rowsI vs xss := by
  have h1 : k < vs.length := by omega
  have : (rowsI vs xss)[k]? = some (rowI (vAt vs k) (rAt xss k)) := by
    simp [rowsI, List.getElem?_zipWith, vAt, rAt, List.getD, h1, hk]
  exact List.mem_of_getElem? this
/-- a slice of rows that the call has made: the outer row and the inner ones -/
def grpR (v : Value) (vs : List Value) (xss : List (List Int)) : List Row := ⟨v, 22, 1, xss.length, vs⟩ :: rowsI vs xss
abbrev grpI (v : Value) (xs : List Int) : List Row := [rowI v xs]
/-! ### groups -/
def HeldG (W0 w : World) (G : List (List Row)) : Prop := Held W0 w G.flatten
theorem HeldG.start (w : World) : HeldG w w [] := Held.start w
theorem HeldG.bel {W0 w : World} {G : List (List Row)} (H : HeldG W0 w G) : Below W0.heap.size W0 w := Held.bel H
theorem HeldG.ext {W0 w : World} {G : List (List Row)} (H : HeldG W0 w G) (x : Ext) : HeldG W0 (ext w x) G := Held.ext H x
theorem HeldG.to {W0 w w' : World} {G : List (List Row)} (H : HeldG W0 w G) (h : ∃ x, w' = Proofs.YtmehmpammjcnkabGreat.ext w x) : HeldG W0 w' G := Held.to H h
theorem HeldG.push {W0 w w' : World} {G : List (List Row)} {g : List Row} (H : HeldG W0 w G) (K : Held w w' g) : HeldG W0 w' (g :: G) := Held.join H K
theorem HeldG.pushI {W0 w w' : World} {G : List (List Row)} {v : Value} {xs : List Int} (H : HeldG W0 w G) (h : ∃ x, w' = Proofs.YtmehmpammjcnkabGreat.ext w x) (ho : OwnI w' w.heap.size v xs) : HeldG W0 w' (grpI v xs :: G) := H.push (Held.fresh ho (ext_refl w) h)
theorem HeldG.pull {W0 w : World} {G : List (List Row)} {g : List Row} (H : HeldG W0 w G) (i : Nat) (h : G[i]? = some g) : HeldG W0 w (g :: G.eraseIdx i) := Held.front H (perm_pull G i h).flatten
theorem HeldG.row {W0 w : World} {G : List (List Row)} (H : HeldG W0 w G) {g : List Row} {v : Value} {e sz n : Nat} {cs : List Value} (hg : g ∈ G) (hr : (⟨v, e, sz, n, cs⟩ : Row) ∈ g) : Sl w sz v n cs := Held.sl H (List.mem_flatten.2 ⟨g, hg, hr⟩)
theorem HeldG.ints {W0 w : World} {G : List (List Row)} (H : HeldG W0 w G) {v : Value} {xs : List Int} (hg : grpI v xs ∈ G) : IntsAt w v xs := H.row hg List.mem_cons_self
theorem HeldG.oldI {W0 w : World} {G : List (List Row)} (H : HeldG W0 w G) {v : Value} {xs : List Int} (h : IntsAt W0 v xs) : IntsAt w v xs := h.mono H.bel
theorem HeldG.oldR {W0 w : World} {G : List (List Row)} (H : HeldG W0 w G) {v : Value} {xs : List (List Int)} (h : RowsAt W0 v xs) : RowsAt w v xs := h.mono H.bel
theorem HeldG.rows {W0 w : World} {G : List (List Row)} (H : HeldG W0 w G) {v : Value} {vs : List Value} {xss : List (List Int)} (hl : vs.length = xss.length) (hg : grpR v vs xss ∈ G) : RowsAt w v xss :=
  ⟨vs, H.row hg List.mem_cons_self, fun _ hk => H.row hg (List.mem_cons_of_mem _ (rowsI_mem hl hk))⟩
theorem Held.rows {W0 w : World} {L : List Row} {v : Value} {vs : List Value} {xss : List (List Int)} (H : Held W0 w (grpR v vs xss ++ L)) (hl : vs.length = xss.length) : RowsAt w v xss :=
  ⟨vs, Held.sl H (List.mem_append_left _ List.mem_cons_self), fun _ hk => Held.sl H (List.mem_append_left _ (List.mem_cons_of_mem _ (rowsI_mem hl hk)))⟩
theorem markIntS_heldG {W0 : World} {G : List (List Row)} (xs : List Int) (v : Value) (k : Int) (w : World) (H : HeldG W0 w (grpI v xs :: G)) (h0 : 0 ≤ k) (h1 : k ≤ 1099511627776) (hs : xs.length ≤ 1099511627776) :
    Calls Tryz.prog 16 #[v, .int .i64 k] w fun e w' => e = .returned (.int .i64 (k + xs.length)) ∧ HeldG W0 w' (grpI v (marks k xs.length) :: G) := markIntS_held xs v k w H h0 h1 hs
theorem HeldG.rows2 {W0 w : World} {G : List (List Row)} (H : HeldG W0 w G) {v : Value} {vs : List Value} {xss : List (List Int)} (hg : grpR v vs xss ∈ G) (hl : vs.length = xss.length) : RowsAt w v xss := H.rows hl hg
/-! ### reading, comparing, measuring -/
def eqRows (a b : List (List Int)) : Bool := decide (a.length = b.length) && allTo (fun k => eqInts (rAt a k) (rAt b k)) a.length
theorem eqRows_self (a : List (List Int)) : eqRows a a = true := by simp [eqRows, allTo_true, eqInts_self]
/-! ### marks -/
def sumLen (xss : List (List Int)) : Nat → Nat := iter (fun i n => n + (rAt xss i).length) 0
theorem sumLen_succ (xss : List (List Int)) (j : Nat) : sumLen xss (j + 1) = sumLen xss j + (rAt xss j).length := rfl
theorem sumLen_mono (xss : List (List Int)) {i j : Nat} (h : i ≤ j) : sumLen xss i ≤ sumLen xss j := by
  induction j with
  | zero => simp at h; subst h; exact Nat.le_refl _
  | succ j ih =>
    by_cases e : i = j + 1
    · subst e; exact Nat.le_refl _
    · have := ih (by omega); rw [sumLen_succ]; omega
/-- the first j rows marked -/
def mixR (k : Int) (xss : List (List Int)) : Nat → List (List Int) := iter (fun j yss => yss.set j (marks (k + (sumLen xss j : Nat)) (rAt xss j).length)) xss
theorem mixR_succ (k : Int) (xss : List (List Int)) (j : Nat) : mixR k xss (j + 1) = (mixR k xss j).set j (marks (k + (sumLen xss j : Nat)) (rAt xss j).length) := rfl
theorem mixR_len (k : Int) (xss : List (List Int)) (j : Nat) : (mixR k xss j).length = xss.length := by
  induction j with
  | zero => rfl
  | succ j ih => rw [mixR_succ, List.length_set, ih]
theorem mixR_hi (k : Int) (xss : List (List Int)) (j i : Nat) (h : j ≤ i) : rAt (mixR k xss j) i = rAt xss i := by
  induction j with
  | zero => rfl
  | succ j ih =>
    rw [mixR_succ, rAt, List.getD, List.getElem?_set_ne (by omega)]
    exact ih (by omega)
theorem mixR_lo (k : Int) (xss : List (List Int)) (j i : Nat) (h : i < j) (hi : i < xss.length) : rAt (mixR k xss j) i = marks (k + (sumLen xss i : Nat)) (rAt xss i).length := by
  induction j with
  | zero => omega
  | succ j ih =>
    rw [mixR_succ, rAt, List.getD]
    by_cases e : i = j
    · subst e
      rw [List.getElem?_set_self (by rw [mixR_len]; exact hi)]; rfl
    · rw [List.getElem?_set_ne (by omega)]
      exact ih (by omega)
theorem rowsI_set (vs : List Value) (xss : List (List Int)) (j : Nat) (ys : List Int) (hl : vs.length = xss.length) (hj : j < xss.length) : (rowsI vs xss).set j (rowI (vAt vs j) ys) = rowsI vs (xss.set j ys) := by
  apply List.ext_getElem?
  intro i
  by_cases e : j = i
  · subst e
    have h1 : j < (rowsI vs xss).length := by simp [rowsI]; omega
    rw [List.getElem?_set_self h1]
    simp [rowsI, List.getElem?_zipWith, vAt, List.getD, hj, show j < vs.length by omega]
  · rw [List.getElem?_set_ne e]
    simp [rowsI, List.getElem?_zipWith, List.getElem?_set_ne e]
theorem perm_set {α : Type} (r' : α) : ∀ (L : List α) (i : Nat), i < L.length → (r' :: L.eraseIdx i).Perm (L.set i r')
  | [], i, h => by simp at h
  | x :: L, 0, h => List.Perm.refl _
  | x :: L, i + 1, h => (List.Perm.swap _ _ _).trans (List.Perm.cons x (perm_set r' L i (by simpa using h)))
def marksR (k : Int) (xss : List (List Int)) : List (List Int) := mixR k xss xss.length
def total (xss : List (List Int)) : Nat := sumLen xss xss.length
theorem rowsI_get {vs : List Value} {xss : List (List Int)} {k : Nat} (h : vs.length = xss.length) (hk : k < xss.length) : (rowsI vs xss)[k]? = some (rowI (vAt vs k) (rAt xss k)) := by
  have h1 : k < vs.length := by omega
  simp [rowsI, List.getElem?_zipWith, vAt, rAt, List.getD, h1, hk]
theorem Held.rowAt {W0 w : World} {L : List Row} {v : Value} {vs : List Value} {xss : List (List Int)} (H : Held W0 w (grpR v vs xss ++ L)) (hl : vs.length = xss.length) {j : Nat} (hj : j < xss.length) :
    ∃ L', Held W0 w (rowI (vAt vs j) (rAt xss j) :: L') ∧ ∀ ys, (rowI (vAt vs j) ys :: L').Perm (grpR v vs (xss.set j ys) ++ L) := by
  have e : (grpR v vs xss ++ L)[j + 1]? = some (rowI (vAt vs j) (rAt xss j)) := by
    have h1 : j < (rowsI vs xss).length := by simp [rowsI]; omega
    simp only [grpR, List.cons_append, List.getElem?_cons_succ]
    rw [List.getElem?_append_left h1, rowsI_get hl hj]
  refine ⟨_, H.pull (j + 1) e, fun ys => ?_⟩
  have hp := perm_set (rowI (vAt vs j) ys) (grpR v vs xss ++ L) (j + 1) (List.getElem?_eq_some_iff.1 e).1
  have h1 : j < (rowsI vs xss).length := by simp [rowsI]; omega
  have e2 : (grpR v vs xss ++ L).set (j + 1) (rowI (vAt vs j) ys) = grpR v vs (xss.set j ys) ++ L := by
    simp only [grpR, List.cons_append, List.set_cons_succ, List.length_set]
    rw [List.set_append_left _ _ h1, rowsI_set vs xss j ys hl hj]
  rw [← e2]; exact hp
end
section
open Go.ChangeShapes Go.WideShapes Go.ChangeAt Go.RowKit
theorem cell_hd (vs : List Value) (n k : Nat) (z : Value) (hl : vs.length = k) (hk : k < n) : (vs ++ List.replicate (n - k) z)[k]? = some z := by
  rw [List.getElem?_append_right (by omega), hl, Nat.sub_self, List.getElem?_replicate, if_pos (by omega)]
end
section
open Go.ChangeShapes Go.WideShapes Go.ChangeAt Go.RowKit
abbrev slR (ρ κ : Nat → Nat) (n i : Nat) : Value := .slice (some ⟨ρ i, 0, none⟩) n (κ i)
def ftab {α : Type} (m : Nat) (f : Nat → α) : List α := (List.range m).map f
theorem ftab_len {α : Type} (m : Nat) (f : Nat → α) : (ftab m f).length = m := by simp [ftab]
theorem ftab_get {α : Type} {m : Nat} (f : Nat → α) {i : Nat} (h : i < m) : (ftab m f)[i]? = some (f i) := by simp [ftab, h]
theorem ftab_getE {α : Type} {m : Nat} (f : Nat → α) {i : Nat} (h : i < (ftab m f).length) : (ftab m f)[i] = f i := by simp [ftab]
theorem ftab_congr {α : Type} {m : Nat} {f g : Nat → α} (h : ∀ i, i < m → f i = g i) : ftab m f = ftab m g := List.map_congr_left fun i hi => h i (List.mem_range.1 hi)
theorem ftab_set {α : Type} {m : Nat} (f : Nat → α) (i : Nat) (x : α) : (ftab m f).set i x = ftab m (fun k => if k = i then x else f k) := by
  apply List.ext_getElem?
  intro k
  by_cases hk : k < m
  · by_cases e : i = k
    · subst e
      rw [List.getElem?_set_self (by rw [ftab_len]; exact hk), ftab_get _ hk, if_pos rfl]
    · rw [List.getElem?_set_ne e, ftab_get _ hk, ftab_get _ hk, if_neg (Ne.symm e)]
  · rw [List.getElem?_eq_none (by rw [List.length_set, ftab_len]; omega), List.getElem?_eq_none (by rw [ftab_len]; omega)]
theorem ftab_succ {α : Type} (m : Nat) (f : Nat → α) : ftab (m + 1) f = ftab m f ++ [f m] := by simp [ftab, List.range_succ]
abbrev outerR (g cap m : Nat) (φ : Nat → Value) : Row := ⟨.slice (some ⟨g, 0, none⟩) m cap, 22, 1, m, ftab m φ⟩
def rowM (ρ κ : Nat → Nat) (n : Nat) (M : Mat) (i : Nat) : Row := rowI (slR ρ κ n i) (tab n (M i))
def MO (g cap m : Nat) (φ : Nat → Value) (ρ κ : Nat → Nat) (n : Nat) (M : Mat) (L : List Row) : List Row := outerR g cap m φ :: (ftab m (rowM ρ κ n M) ++ L)
abbrev MH (W0 w : World) (g cap : Nat) (ρ κ : Nat → Nat) (m n : Nat) (M : Mat) (L : List Row) : Prop := Held W0 w (MO g cap m (slR ρ κ n) ρ κ n M L)
theorem MO_cell {W0 w : World} {g cap m n : Nat} {φ : Nat → Value} {ρ κ : Nat → Nat} {M : Mat} {L : List Row} (H : Held W0 w (MO g cap m φ ρ κ n M L)) {i : Nat} (hi : i < m) : w.cell? ⟨g, i, none⟩ = some (φ i) ∧ w.frozen? ⟨g, i, none⟩ = false ∧ Old w g := by
  have ho := H.own _ List.mem_cons_self
  simp only at ho
  refine ⟨?_, ho.frozenAt i, ⟨(ho.lt g rfl).2⟩⟩
  rw [ho.cellAt i (by omega)]
  exact ftab_get φ hi
theorem MO_put {W0 w : World} {g cap m n : Nat} {φ : Nat → Value} {ρ κ : Nat → Nat} {M : Mat} {L : List Row} (H : Held W0 w (MO g cap m φ ρ κ n M L)) (i : Nat) (v : Value) :
    Held W0 (w.setCell ⟨g, i, none⟩ v) (MO g cap m (fun k => if k = i then v else φ k) ρ κ n M L) := by
  have ho := H.own _ List.mem_cons_self
  simp only at ho
  have hst := ho.stored i v
  have h4 := Held.write H hst.2 hst.1
  rw [ftab_set] at h4
  exact h4
def updM (M : Mat) (i j : Nat) (x : Int) : Mat := fun k => if k = i then upd (M i) j x else M k
theorem MO_row {W0 w : World} {g cap m n : Nat} {φ : Nat → Value} {ρ κ : Nat → Nat} {M : Mat} {L : List Row} (H : Held W0 w (MO g cap m φ ρ κ n M L)) {i j : Nat} (hi : i < m) (hj : j < n) :
    w.cell? ⟨ρ i, j, none⟩ = some (.int .i64 (M i j)) ∧ w.frozen? ⟨ρ i, j, none⟩ = false ∧ Old w (ρ i) ∧ ∀ x, Held W0 (w.setCell ⟨ρ i, j, none⟩ (.int .i64 x)) (MO g cap m φ ρ κ n (updM M i j x) L) := by
  have e : (MO g cap m φ ρ κ n M L)[i + 1]? = some (rowM ρ κ n M i) := by
    rw [MO, List.getElem?_cons_succ, List.getElem?_append_left (by rw [ftab_len]; exact hi)]
    exact ftab_get _ hi
  have H2 := H.pull (i + 1) e
  obtain ⟨k1, k2⟩ := Held.cellRow H2 hj
  refine ⟨k1, k2, H2.oldRow, fun x => ?_⟩
  have H3 := Held.storeRow H2 j x
  refine H3.front ?_
  have hp := perm_set (rowI (slR ρ κ n i) (tab n (upd (M i) j x))) (MO g cap m φ ρ κ n M L) (i + 1) (List.getElem?_eq_some_iff.1 e).1
  have e2 : (MO g cap m φ ρ κ n M L).set (i + 1) (rowI (slR ρ κ n i) (tab n (upd (M i) j x))) = MO g cap m φ ρ κ n (updM M i j x) L := by
    rw [MO, List.set_cons_succ, List.set_append_left _ _ (by rw [ftab_len]; exact hi), ftab_set, MO]
    congr 2
    refine ftab_congr fun k _ => ?_
    by_cases hk : k = i
    · subst hk; simp [rowM, updM]
    · rw [if_neg hk, rowM, rowM, updM, if_neg hk]
  rw [← e2]; exact hp
def sw (t k : Nat) (ρ : Nat → Nat) : Nat → Nat := fun i => if i = t then ρ k else if i = k then ρ t else ρ i
theorem MO_swap {W0 w : World} {g cap m n : Nat} {ρ κ : Nat → Nat} {M : Mat} {L : List Row} {t k : Nat} (ht : t < m) (hk : k < m)
    (H : Held W0 w (MO g cap m (fun i => if i = k then slR ρ κ n t else if i = t then slR ρ κ n k else slR ρ κ n i) ρ κ n M L)) : MH W0 w g cap (sw t k ρ) (sw t k κ) m n (swapR M t k) L := by
  have e1 : ftab m (fun i => if i = k then slR ρ κ n t else if i = t then slR ρ κ n k else slR ρ κ n i) = ftab m (slR (sw t k ρ) (sw t k κ) n) := ftab_congr fun i _ => by
    by_cases h1 : i = k
    · by_cases h2 : i = t
      · subst h1; subst h2; simp [slR, sw]
      · subst h1; rw [if_pos rfl]; simp [slR, sw, h2]
    · by_cases h2 : i = t
      · subst h2; rw [if_neg h1, if_pos rfl]; simp [slR, sw]
      · rw [if_neg h1, if_neg h2]; simp [slR, sw, h1, h2]
  have e2 : (ftab m (rowM (sw t k ρ) (sw t k κ) n (swapR M t k))).Perm (ftab m (rowM ρ κ n M)) := by
    have hp := @List.set_set_perm _ (ftab m (rowM ρ κ n M)) t k (by rw [ftab_len]; exact ht) (by rw [ftab_len]; exact hk)
    rw [ftab_getE, ftab_getE, ftab_set, ftab_set] at hp
    refine List.Perm.trans (List.Perm.of_eq (ftab_congr fun i _ => ?_)) hp
    by_cases h1 : i = k
    · by_cases h2 : i = t
      · subst h1; subst h2; simp [rowM, slR, sw, swapR]
      · subst h1; rw [if_pos rfl]; simp [rowM, slR, sw, swapR, h2]
    · by_cases h2 : i = t
      · subst h2; rw [if_neg h1, if_pos rfl]; simp [rowM, slR, sw, swapR]
      · rw [if_neg h1, if_neg h2]; simp [rowM, slR, sw, swapR, h1, h2]
  unfold MH MO
  rw [outerR, ← e1]
  exact H.front (List.Perm.cons _ (List.Perm.append_right L e2.symm))
theorem MH_of {W0 w : World} {L : List Row} {v : Value} {vs : List Value} {m n : Nat} {M : Mat} (hl : vs.length = m) (hm : 0 < m) (hn : 0 < n) (H : Held W0 w (grpR v vs (ftab m fun i => tab n (M i)) ++ L)) :
    ∃ g cap ρ κ, v = .slice (some ⟨g, 0, none⟩) m cap ∧ MH W0 w g cap ρ κ m n M L := by
  have pos : ∀ {w : World} {B e sz : Nat} {v : Value} {n : Nat} {xs : List Value}, w.ownsRow B e sz v n xs → 0 < n → ∃ g cap, v = .slice (some ⟨g, 0, none⟩) n cap := fun h hn => by
    rcases h.2 with ⟨_, h0⟩ | ⟨g, cap, cur, hv, _⟩
    · omega
    · exact ⟨g, cap, hv⟩
  have hlen : (ftab m fun i => tab n (M i)).length = m := ftab_len _ _
  have ho := H.own _ (List.mem_append_left _ List.mem_cons_self)
  simp only [hlen] at ho
  obtain ⟨g, cap, hv⟩ := pos ho hm
  have hrow : ∀ i, ∃ q : Nat × Nat, i < m → vAt vs i = .slice (some ⟨q.1, 0, none⟩) n q.2 := fun i => by
    by_cases hi : i < m
    · have hr := H.own _ (List.mem_append_left _ (List.mem_cons_of_mem _ (rowsI_mem (hl.trans hlen.symm) (by rw [hlen]; exact hi))))
      have e : rAt (ftab m fun i => tab n (M i)) i = tab n (M i) := by rw [rAt, List.getD, ftab_get _ hi]; rfl
      rw [e] at hr
      simp only [tab_len] at hr
      obtain ⟨r, c, h⟩ := pos hr hn
      exact ⟨(r, c), fun _ => h⟩
    · exact ⟨(0, 0), fun h => absurd h hi⟩
  obtain ⟨q, hq⟩ := Classical.skolem.1 hrow
  refine ⟨g, cap, fun i => (q i).1, fun i => (q i).2, hv, ?_⟩
  have e1 : vs = ftab m (slR (fun i => (q i).1) (fun i => (q i).2) n) := by
    apply List.ext_getElem?
    intro i
    by_cases hi : i < m
    · rw [ftab_get _ hi]
      have := hq i hi
      rw [vAt, List.getD, List.getElem?_eq_getElem (by omega)] at this
      rw [List.getElem?_eq_getElem (by omega)]
      exact congrArg some this
    · rw [List.getElem?_eq_none (by omega), List.getElem?_eq_none (by rw [ftab_len]; omega)]
  have e2 : rowsI vs (ftab m fun i => tab n (M i)) = ftab m (rowM (fun i => (q i).1) (fun i => (q i).2) n M) := by
    apply List.ext_getElem?
    intro i
    by_cases hi : i < m
    · rw [ftab_get _ hi, rowsI_get (hl.trans hlen.symm) (by rw [hlen]; exact hi), hq i hi]
      have e : rAt (ftab m fun i => tab n (M i)) i = tab n (M i) := by rw [rAt, List.getD, ftab_get _ hi]; rfl
      rw [e]; rfl
    · rw [List.getElem?_eq_none (by simp [rowsI, hl, hlen]; omega), List.getElem?_eq_none (by rw [ftab_len]; omega)]
  have e3 : grpR v vs (ftab m fun i => tab n (M i)) ++ L = MO g cap m (slR (fun i => (q i).1) (fun i => (q i).2) n) (fun i => (q i).1) (fun i => (q i).2) n M L := by
    rw [grpR, e2, MO, hlen, hv, outerR, ← e1]; rfl
  rw [e3] at H
  exact H
end
section
open Go.ChangeShapes Go.WideShapes Go.ChangeAt Go.RowKit
def btw (n lo hi : Int) : Bool := decide (lo ≤ n) && decide (n ≤ hi)
theorem btw_iff {n lo hi : Int} : btw n lo hi = true ↔ lo ≤ n ∧ n ≤ hi := by simp [btw]
theorem btw_not {n lo hi : Int} : btw n lo hi = false ↔ ¬ (lo ≤ n ∧ n ≤ hi) := by rw [← btw_iff]; simp
theorem between_any (n lo hi : Int) (w : World) : Calls Tryz.prog 60 #[.int .i64 n, .int .i64 lo, .int .i64 hi] w fun e w' => e = .returned (.bool (btw n lo hi)) ∧ ∃ x, w' = ext w x := by
  by_cases h1 : lo ≤ n <;> by_cases h2 : n ≤ hi
  all_goals
    go_enter Tryz.func60, Tryz.ntmps60
    go_wp2
    go_ret
    exact ⟨by simp [h1, h2, btw], ext_refl _⟩
theorem between_b (n lo hi : Int) (b : Bool) (h : btw n lo hi = b) (w : World) : Calls Tryz.prog 60 #[.int .i64 n, .int .i64 lo, .int .i64 hi] w fun e w' => e = .returned (.bool b) ∧ ∃ x, w' = ext w x := h ▸ between_any n lo hi w
theorem l1In_any (n lo hi : Int) (w : World) : Calls Tryz.prog 43 #[.int .i64 n, .int .i64 lo, .int .i64 hi] w fun e w' => e = .returned (.bool (btw n lo hi)) ∧ ∃ x, w' = ext w x := by
  by_cases h1 : lo ≤ n <;> by_cases h2 : n ≤ hi
  all_goals
    go_enter Tryz.func43, Tryz.ntmps43
    go_wp2
    go_ret
    exact ⟨by simp [h1, h2, btw], ext_refl _⟩
theorem l1In_b (n lo hi : Int) (b : Bool) (h : btw n lo hi = b) (w : World) : Calls Tryz.prog 43 #[.int .i64 n, .int .i64 lo, .int .i64 hi] w fun e w' => e = .returned (.bool b) ∧ ∃ x, w' = ext w x := h ▸ l1In_any n lo hi w
end
section
open Go.ChangeShapes Go.WideShapes Go.ChangeAt Go.RowKit
def cv (c : Int × Int) : List Value := [iv c.1, iv c.2]
def cx (cs : List (Int × Int)) (k : Nat) : Int := (cs.getD k (0, 0)).1
def cy (cs : List (Int × Int)) (k : Nat) : Int := (cs.getD k (0, 0)).2
/-- cs read from a slice of cells -/
def CellsAt (w : World) (v : Value) (cs : List (Int × Int)) : Prop := Sl w 2 v cs.length (cs.flatMap cv)
theorem CellsAt.mono {w w' : World} {v : Value} {cs : List (Int × Int)} (h : CellsAt w v cs) (hb : Below w.heap.size w w') : CellsAt w' v cs := Sl.mono h hb
theorem flat_len (cs : List (Int × Int)) : (cs.flatMap cv).length = cs.length * 2 := by
  induction cs with
  | nil => rfl
  | cons c cs ih => simp [cv] at ih ⊢; omega
theorem flat_at (cs : List (Int × Int)) (k : Nat) (h : k < cs.length) : (cs.flatMap cv)[k * 2 + 0]? = some (.int .i64 (cx cs k)) ∧ (cs.flatMap cv)[k * 2 + 1]? = some (.int .i64 (cy cs k)) := by
  induction cs generalizing k with
  | nil => simp at h
  | cons c cs ih =>
    cases k with
    | zero => simp [cv, iv, cx, cy]
    | succ k =>
      have := ih k (by simpa using h)
      simp only [List.flatMap_cons, cv, List.cons_append, List.nil_append]
      rw [show (k + 1) * 2 + 0 = (k * 2 + 0) + 1 + 1 by omega, show (k + 1) * 2 + 1 = (k * 2 + 1) + 1 + 1 by omega]
      simpa [cx, cy] using this
theorem infoCell : (Tryz.prog.info? 70).map (fun i => i.size) = some 2 := by kernel_rfl
theorem CellsAt.opn {w : World} {v : Value} {cs : List (Int × Int)} (h : CellsAt w v cs) :
    ∃ a b o cap, v = .slice a cs.length cap ∧ cs.length ≤ cap ∧ cs.length ≤ 9223372036854775807 ∧ cap ≤ 9223372036854775807 ∧ ∀ k, k < cs.length → Old w b ∧ (∀ w', (Instr.indexAt 53 (.slice a cs.length cap) (.int .i64 k)).run Tryz.prog w' = .ok (.pointer (some ⟨b, o + k * 2, none⟩)) w') ∧
      w.cell? ⟨b, o + k * 2, none⟩ = some (.int .i64 (cx cs k)) ∧ w.cell? ⟨b, o + k * 2 + 1, none⟩ = some (.int .i64 (cy cs k)) := by
  obtain ⟨a, b, o, cap, rfl, h1, h2, h3, h4⟩ := Sl.idx h Tryz.underlying53 infoCell
  refine ⟨a, b, o, cap, rfl, h1, h2, h3, fun k hk => ?_⟩
  obtain ⟨g1, g2, g3⟩ := h4 k hk
  refine ⟨g1, g2, ?_, ?_⟩
  · have := g3 0 (by omega)
    rw [Nat.add_zero] at this
    rw [this]; exact (flat_at cs k hk).1
  · rw [g3 1 (by omega)]; exact (flat_at cs k hk).2
def bef (x y x' y' : Int) : Bool := decide (y < y') || (y == y' && decide (x < x'))
def onB (x y : Int) : Bool := btw x 0 7 && btw y 0 7
theorem before_any (x y x' y' : Int) (w : World) : Calls Tryz.prog 70 #[.agg #[.int .i64 x, .int .i64 y], .agg #[.int .i64 x', .int .i64 y']] w fun e w' => e = .returned (.bool (bef x y x' y')) ∧ ∃ x, w' = ext w x := by
  have HF := Lib.hid (show bef x y x' y' = (decide (y < y') || (y == y' && decide (x < x'))) from rfl)
  by_cases h1 : y < y'
  · go_enter Tryz.func70, Tryz.ntmps70
    go_wp2_with fail
    go_ret
    exact ⟨ret_bool (by rw [HF.out]; simp [h1]), (by repeat (first | exact ext_refl _ | (with_reducible assumption) | refine ext_ext' ?_ _ | refine ext_alloc' ?_ _ | refine ext_drew' ?_))⟩
  by_cases h2 : y = y'
  · by_cases h3 : x < x'
    all_goals
      have h2' : (y == y') = true := beq_iff_eq.2 h2
      have H2 := Lib.hid h2
      clear h2
      go_enter Tryz.func70, Tryz.ntmps70
      go_wp2_with fail
      go_ret
      exact ⟨ret_bool (by rw [HF.out]; simp [H2.out, h3]), (by repeat (first | exact ext_refl _ | (with_reducible assumption) | refine ext_ext' ?_ _ | refine ext_alloc' ?_ _ | refine ext_drew' ?_))⟩
  · have h2' : (y == y') = false := beq_eq_false_iff_ne.2 h2
    have H2 := Lib.hid h2
    clear h2
    go_enter Tryz.func70, Tryz.ntmps70
    go_wp2_with fail
    go_ret
    exact ⟨ret_bool (by rw [HF.out]; simp [H2.out, h1]), (by repeat (first | exact ext_refl _ | (with_reducible assumption) | refine ext_ext' ?_ _ | refine ext_alloc' ?_ _ | refine ext_drew' ?_))⟩
theorem onBoard_any (x y : Int) (w : World) : Calls Tryz.prog 69 #[.agg #[.int .i64 x, .int .i64 y]] w fun e w' => e = .returned (.bool (onB x y)) ∧ ∃ x, w' = ext w x := by
  have HF := Lib.hid (show onB x y = (btw x 0 7 && btw y 0 7) from rfl)
  cases h1 : btw x 0 7
  · go_enter Tryz.func69, Tryz.ntmps69
    go_wp2_with (first | (go_at_call 60; refine (between_b _ _ _ _ h1 _).mono ?_; rintro e w' ⟨rfl, xe, rfl⟩))
    go_ret
    exact ⟨ret_bool (by rw [HF.out, h1]; rfl), (by repeat (first | exact ext_refl _ | (with_reducible assumption) | refine ext_ext' ?_ _ | refine ext_alloc' ?_ _ | refine ext_drew' ?_))⟩
  cases h2 : btw y 0 7
  all_goals
    go_enter Tryz.func69, Tryz.ntmps69
    go_wp2_with (first | (go_at_call 60; refine (between_any _ _ _ _).mono ?_; rintro e w' ⟨rfl, xe, rfl⟩))
    go_ret
    exact ⟨ret_bool (by rw [HF.out, h1, h2]; rfl), (by repeat (first | exact ext_refl _ | (with_reducible assumption) | refine ext_ext' ?_ _ | refine ext_alloc' ?_ _ | refine ext_drew' ?_))⟩
theorem l2Before_any (x y x' y' : Int) (w : World) : Calls Tryz.prog 55 #[.agg #[.int .i64 x, .int .i64 y], .agg #[.int .i64 x', .int .i64 y']] w fun e w' => e = .returned (.bool (bef x y x' y')) ∧ ∃ x, w' = ext w x := by
  have HF := Lib.hid (show bef x y x' y' = (decide (y < y') || (y == y' && decide (x < x'))) from rfl)
  by_cases h1 : y < y'
  · go_enter Tryz.func55, Tryz.ntmps55
    go_wp2_with fail
    go_ret
    exact ⟨ret_bool (by rw [HF.out]; simp [h1]), (by repeat (first | exact ext_refl _ | (with_reducible assumption) | refine ext_ext' ?_ _ | refine ext_alloc' ?_ _ | refine ext_drew' ?_))⟩
  by_cases h2 : y = y'
  · by_cases h3 : x < x'
    all_goals
      have h2' : (y == y') = true := beq_iff_eq.2 h2
      have H2 := Lib.hid h2
      clear h2
      go_enter Tryz.func55, Tryz.ntmps55
      go_wp2_with fail
      go_ret
      exact ⟨ret_bool (by rw [HF.out]; simp [H2.out, h3]), (by repeat (first | exact ext_refl _ | (with_reducible assumption) | refine ext_ext' ?_ _ | refine ext_alloc' ?_ _ | refine ext_drew' ?_))⟩
  · have h2' : (y == y') = false := beq_eq_false_iff_ne.2 h2
    have H2 := Lib.hid h2
    clear h2
    go_enter Tryz.func55, Tryz.ntmps55
    go_wp2_with fail
    go_ret
    exact ⟨ret_bool (by rw [HF.out]; simp [H2.out, h1]), (by repeat (first | exact ext_refl _ | (with_reducible assumption) | refine ext_ext' ?_ _ | refine ext_alloc' ?_ _ | refine ext_drew' ?_))⟩
end
section
open Go.ChangeShapes Go.WideShapes Go.ChangeAt Go.RowKit
theorem infoLCell : (Tryz.prog.info? 72).map (fun i => i.size) = some 2 := by kernel_rfl
theorem infoCell3 : (Tryz.prog.info? 70).map (fun i => (i.zero, i.size, i.bytes)) = some (some (.agg #[.int .i64 0, .int .i64 0]), 2, 16) := by kernel_rfl
theorem CellsAt.lopn {w : World} {v : Value} {cs : List (Int × Int)} (h : CellsAt w v cs) :
    ∃ a b o cap, v = .slice a cs.length cap ∧ cs.length ≤ cap ∧ cs.length ≤ 9223372036854775807 ∧ cap ≤ 9223372036854775807 ∧ ∀ k, k < cs.length → Old w b ∧ (∀ w', (Instr.indexAt 42 (.slice a cs.length cap) (.int .i64 k)).run Tryz.prog w' = .ok (.pointer (some ⟨b, o + k * 2, none⟩)) w') ∧
      w.cell? ⟨b, o + k * 2, none⟩ = some (.int .i64 (cx cs k)) ∧ w.cell? ⟨b, o + k * 2 + 1, none⟩ = some (.int .i64 (cy cs k)) := by
  obtain ⟨a, b, o, cap, rfl, h1, h2, h3, h4⟩ := Sl.idx h Tryz.underlying42 infoLCell
  refine ⟨a, b, o, cap, rfl, h1, h2, h3, fun k hk => ?_⟩
  obtain ⟨g1, g2, g3⟩ := h4 k hk
  refine ⟨g1, g2, ?_, ?_⟩
  · have := g3 0 (by omega)
    rw [Nat.add_zero] at this
    rw [this]; exact (flat_at cs k hk).1
  · rw [g3 1 (by omega)]; exact (flat_at cs k hk).2
abbrev OwnC (w : World) (B : Nat) (v : Value) (cs : List (Int × Int)) : Prop := w.ownsRow B 70 2 v cs.length (cs.flatMap cv)
theorem CellsAt_own {w : World} {B : Nat} {v : Value} {cs : List (Int × Int)} (h : OwnC w B v cs) : CellsAt w v cs := Sl_own h
theorem own_ext {w : World} {B e sz : Nat} {v : Value} {n : Nat} {xs : List Value} (h : w.ownsRow B e sz v n xs) (x : Ext) : (ext w x).ownsRow B e sz v n xs := by
  refine ⟨h.1, ?_⟩
  rcases h.2 with h2 | ⟨g, cap, cur, h1, h2, h3, h4⟩
  · exact .inl h2
  · exact .inr ⟨g, cap, cur, h1, h2, by rw [heap_ext w x (Array.getElem?_eq_some_iff.1 h3).1]; exact h3, h4⟩
def partC (cs : List (Int × Int)) (k : Nat) : List Value := (cs.take k).flatMap cv ++ List.replicate ((cs.length - k) * 2) (iv 0)
theorem partC_zero (cs : List (Int × Int)) : partC cs 0 = List.replicate (cs.length * 2) (iv 0) := by simp [partC]
theorem partC_all (cs : List (Int × Int)) : partC cs cs.length = cs.flatMap cv := by simp [partC]
theorem partC_step (cs : List (Int × Int)) (k : Nat) (h : k < cs.length) : ((partC cs k).set (k * 2) (.int .i64 (cx cs k))).set (k * 2 + 1) (.int .i64 (cy cs k)) = partC cs (k + 1) := by
  have e1 : ((cs.take k).flatMap cv).length = k * 2 := by rw [flat_len]; simp; omega
  have e2 : cs.take (k + 1) = cs.take k ++ [(cx cs k, cy cs k)] := by
    have e : (cx cs k, cy cs k) = cs[k] := by simp [cx, cy, List.getD, h]
    rw [e, List.take_succ_eq_append_getElem h]
  have e3 : List.replicate ((cs.length - k) * 2) (iv 0) = iv 0 :: iv 0 :: List.replicate ((cs.length - (k + 1)) * 2) (iv 0) := by
    rw [show (cs.length - k) * 2 = (cs.length - (k + 1)) * 2 + 1 + 1 by omega]; rfl
  rw [partC, partC, e2, e3, List.flatMap_append]
  rw [List.set_append_right _ _ (by omega), e1, Nat.sub_self, List.set_append_right _ _ (by omega), e1, show k * 2 + 1 - k * 2 = 1 by omega]
  simp [cv, iv]
theorem partC_cell (cs : List (Int × Int)) (k : Nat) (h : k < cs.length) : ∃ u u', (partC cs k)[k * 2]? = some u ∧ (partC cs k)[k * 2 + 1]? = some u' := by
  have e1 : ((cs.take k).flatMap cv).length = k * 2 := by rw [flat_len]; simp; omega
  have e3 : List.replicate ((cs.length - k) * 2) (iv 0) = iv 0 :: iv 0 :: List.replicate ((cs.length - (k + 1)) * 2) (iv 0) := by
    rw [show (cs.length - k) * 2 = (cs.length - (k + 1)) * 2 + 1 + 1 by omega]; rfl
  refine ⟨iv 0, iv 0, ?_, ?_⟩
  · rw [partC, e3, List.getElem?_append_right (by omega), e1]; simp
  · rw [partC, e3, List.getElem?_append_right (by omega), e1, show k * 2 + 1 - k * 2 = 1 by omega]; simp
theorem madeTwo (z : Value) (n : Nat) : (madeCells #[z, z] n).toList = List.replicate n z := by
  apply List.ext_getElem?
  intro i
  by_cases h : i < n
  · have : i % 2 = 0 ∨ i % 2 = 1 := by omega
    rcases this with e | e <;> simp [madeCells, h, e]
  · simp [madeCells, h]
theorem toCell_any (x y : Int) (w : World) : Calls Tryz.prog 48 #[.agg #[.int .i64 x, .int .i64 y]] w fun e w' => e = .returned (.agg #[.int .i64 x, .int .i64 y]) ∧ ∃ x, w' = ext w x := by
  go_enter Tryz.func48, Tryz.ntmps48
  go_wp2_with fail
  refine bodyPost_ret (v := .agg #[.int .i64 x, .int .i64 y]) (by simp [results, Tryz.results48, go_sem]) rfl ⟨rfl, (by repeat (first | exact ext_refl _ | (with_reducible assumption) | refine ext_ext' ?_ _ | refine ext_alloc' ?_ _ | refine ext_drew' ?_))⟩
def eqc (x y x' y' : Int) : Bool := (x == x') && (y == y')
theorem eqCell_any (x y x' y' : Int) (w : World) : Calls Tryz.prog 53 #[.agg #[.int .i64 x, .int .i64 y], .agg #[.int .i64 x', .int .i64 y']] w fun e w' => e = .returned (.bool (eqc x y x' y')) ∧ ∃ x, w' = ext w x := by
  have HF := Lib.hid (show eqc x y x' y' = ((x == x') && (y == y')) from rfl)
  cases h1 : x == x'
  · have h1' : (x != x') = true := by rw [bne, h1]; rfl
    go_enter Tryz.func53, Tryz.ntmps53
    go_wp2_with fail
    go_ret
    exact ⟨ret_bool (by rw [HF.out, h1]; rfl), (by repeat (first | exact ext_refl _ | (with_reducible assumption) | refine ext_ext' ?_ _ | refine ext_alloc' ?_ _ | refine ext_drew' ?_))⟩
  · have h1' : (x != x') = false := by rw [bne, h1]; rfl
    cases h2 : y == y'
    · have h2' : (y != y') = true := by rw [bne, h2]; rfl
      go_enter Tryz.func53, Tryz.ntmps53
      go_wp2_with fail
      go_ret
      exact ⟨ret_bool (by rw [HF.out, h1, h2]; rfl), (by repeat (first | exact ext_refl _ | (with_reducible assumption) | refine ext_ext' ?_ _ | refine ext_alloc' ?_ _ | refine ext_drew' ?_))⟩
    · have h2' : (y != y') = false := by rw [bne, h2]; rfl
      go_enter Tryz.func53, Tryz.ntmps53
      go_wp2_with fail
      go_ret
      exact ⟨ret_bool (by rw [HF.out, h1, h2]; rfl), (by repeat (first | exact ext_refl _ | (with_reducible assumption) | refine ext_ext' ?_ _ | refine ext_alloc' ?_ _ | refine ext_drew' ?_))⟩
theorem toCellS_any (cs : List (Int × Int)) (v : Value) (w : World) (h : CellsAt w v cs) (hs : cs.length ≤ 1099511627776) :
    Calls Tryz.prog 30 #[v] w fun e w' => ∃ v', e = .returned v' ∧ (∃ x, w' = ext w x) ∧ OwnC w' w.heap.size v' cs := by
  obtain ⟨a, b, o, cap, rfl, hc1, hc2, hc3, hcell⟩ := h.lopn
  obtain ⟨i0, hi, hz0, hz1, hz2⟩ := info_parts infoCell3
  have HZ2 := Lib.hid hz2
  have HZ1 := Lib.hid hz1
  have HZ0 := Lib.hid hz0
  have HI := Lib.hid hi
  clear hz0 hz1 hz2 hi
  go_enter Tryz.func30, Tryz.ntmps30
  go_wp2_with (first | (at_make; refine wpList_make_full _ rfl _ _ 53 rfl w.heap.size 70 i0 (.agg #[.int .i64 0, .int .i64 0]) 2 Tryz.underlying53 HI.out HZ0.out HZ1.out .i64 .i64 _ _ cs.length rfl rfl rfl rfl (by rw [HZ2.out]; omega) (by unfold maxLen; omega) (Nat.le_refl _) ?_; intro w1 hown hgrow))
  have hz : (madeCells (Value.agg #[.int .i64 0, .int .i64 0]).cells (cs.length * 2)).toList = partC cs 0 := by rw [partC_zero]; exact madeTwo _ _
  rw [hz] at hown
  have hbel : Below w.heap.size w w1 := (Below.refl _ _).grown hgrow (Nat.le_refl _) (fun k hk => by cases hk)
  clear hz hgrow
  go_loopw [4] (fun i wr => ∃ k : Nat, k ≤ cs.length ∧ i = .int .i64 k ∧ wr.ownsRow w.heap.size 70 2 (.slice (some ⟨w.heap.size, 0, none⟩) cs.length cs.length) cs.length (partC cs k) ∧ Below w.heap.size w wr) (fun i _ => cs.length - (intOf i).toNat)
  case atStart => exact ⟨0, Nat.zero_le _, rfl, hown, hbel⟩
  case round =>
    clear hown hbel
    obtain ⟨k, hk, rfl, hown, hbel⟩ := hrel
    by_cases hlt : k < cs.length
    · obtain ⟨hb, hi, hcx, hcy⟩ := hcell k hlt
      clear hcell
      have hcx2 : wr.cell? ⟨b, o + k * 2, none⟩ = some (.int .i64 (cx cs k)) := by rw [hbel.cell (p := ⟨b, o + k * 2, none⟩) hb.lt]; exact hcx
      have hcy2 : wr.cell? ⟨b, o + k * 2 + 1, none⟩ = some (.int .i64 (cy cs k)) := by rw [hbel.cell (p := ⟨b, o + k * 2 + 1, none⟩) hb.lt]; exact hcy
      have hbo : Old wr b := ⟨Nat.lt_of_lt_of_le hb.lt hbel.size⟩
      obtain ⟨u, u', hu, hu'⟩ := partC_cell cs k hlt
      have hB : Old wr w.heap.size := ⟨(hown.lt _ rfl).2⟩
      have hc0 : wr.cell? ⟨w.heap.size, k * 2, none⟩ = some u := by rw [hown.cellAt (k * 2) (by omega), hu]
      have hf0 : wr.frozen? ⟨w.heap.size, k * 2, none⟩ = false := hown.frozenAt _
      have hc1' : wr.cell? ⟨w.heap.size, k * 2 + 1, none⟩ = some u' := by rw [hown.cellAt (k * 2 + 1) (by omega), hu']
      have hf1 : wr.frozen? ⟨w.heap.size, k * 2 + 1, none⟩ = false := hown.frozenAt _
      have hst := hown.stored (k * 2) (.int .i64 (cx cs k))
      have hst2 := hst.1.stored (k * 2 + 1) (.int .i64 (cy cs k))
      rw [partC_step cs k hlt] at hst2
      have HST := Lib.hid hst2.1
      have HOW := Lib.hid hown
      clear hst hst2 hown hu hu' hcx hcy hb
      go_wp2_with (go_at_call 48; refine (toCell_any _ _ _).mono ?_; rintro e w' ⟨rfl, xe, rfl⟩)
      go_roundw
      case rel => exact ⟨k + 1, hlt, int_succ k, own_ext HST.out _, (((hbel.setCell (Nat.le_refl _) _).setCell (Nat.le_refl _) _).trans ((Below_ext _ _).mono (by simp; exact Nat.le_of_lt hB.lt)))⟩
      case measure => simp [intOf]; omega
    · go_wp2_with fail
      go_ret
      obtain rfl : k = cs.length := by omega
      rw [partC_all] at hown
      obtain ⟨x, rfl⟩ := ext_of hbel
      exact ⟨_, rfl, ⟨x, rfl⟩, hown⟩
def eqCells (a b : List (Int × Int)) : Bool := decide (a.length = b.length) && allTo (fun k => eqc (cx a k) (cy a k) (cx b k) (cy b k)) a.length
theorem eqCells_self (a : List (Int × Int)) : eqCells a a = true := by simp [eqCells, allTo_true, eqc]
theorem eqCells_eq {a b : List (Int × Int)} (h : eqCells a b = true) : a = b := by
  simp [eqCells, allTo_true, cx, cy, eqc] at h
  apply List.ext_getElem h.1
  intro i h1 h2
  have := h.2 i h1
  simp [h1, h2] at this
  exact Prod.ext this.1 this.2
theorem eqCell_b (x y x' y' : Int) (b : Bool) (h : eqc x y x' y' = b) (w : World) : Calls Tryz.prog 53 #[.agg #[.int .i64 x, .int .i64 y], .agg #[.int .i64 x', .int .i64 y']] w fun e w' => e = .returned (.bool b) ∧ ∃ x, w' = ext w x := h ▸ eqCell_any x y x' y' w
theorem eqCellS_any (xs ys : List (Int × Int)) (v u : Value) (w : World) (h : CellsAt w v xs) (h' : CellsAt w u ys) :
    Calls Tryz.prog 37 #[v, u] w fun e w' => e = .returned (.bool (eqCells xs ys)) ∧ ∃ x, w' = ext w x := by
  obtain ⟨a, b, o, cap, rfl, hc1, hc2, hc3, hcell⟩ := h.opn
  obtain ⟨a', b', o', cap', rfl, hc1', hc2', hc3', hcell'⟩ := h'.opn
  by_cases hl : xs.length = ys.length
  · have hne : ((xs.length : Int) != ys.length) = false := by simp [hl]
    have HL := Lib.hid hl
    have hle : xs.length ≤ ys.length := by omega
    clear hl
    go_enter Tryz.func37, Tryz.ntmps37
    go_wp2_with fail
    go_loopw [5] (fun i wr => ∃ k : Nat, k ≤ xs.length ∧ i = .int .i64 k ∧ allTo (fun k => eqc (cx xs k) (cy xs k) (cx ys k) (cy ys k)) k = true ∧ ∃ x, wr = ext w x) (fun i _ => xs.length - (intOf i).toNat)
    case atStart => exact ⟨0, Nat.zero_le _, rfl, rfl, (by repeat (first | exact ext_refl _ | (with_reducible assumption) | refine ext_ext' ?_ _ | refine ext_alloc' ?_ _ | refine ext_drew' ?_))⟩
    case round =>
      obtain ⟨k, hk, rfl, hall, x, rfl⟩ := hrel
      have HA := Lib.hid hall
      clear hall
      by_cases hlt : k < xs.length
      · obtain ⟨hb, hi, hck, hcy⟩ := hcell k hlt
        obtain ⟨hb', hi', hck', hcy'⟩ := hcell' k (by omega)
        clear hcell hcell'
        cases hq : eqc (cx xs k) (cy xs k) (cx ys k) (cy ys k)
        all_goals
          go_wp2_with fail
          refine wp_region_ext_lit (by kernel_rfl) (by kernel_rfl) ?_
          repeat (go_big_quiet_step ((first | (go_at_call 53; first | exact Calls_ext_of2 (eqCell_b _ _ _ _ _ hq _) | exact Calls_ext_of (eqCell_b _ _ _ _ _ hq _)))))
          refine wpQuiet_nil ?_
          intro _ hwq
          obtain ⟨xq, hwq⟩ := hwq
          subst hwq
          go_wp2_with fail
        · go_ret
          exact ⟨ret_bool (by simp only [eqCells, allTo_false (p := fun k => eqc (cx xs k) (cy xs k) (cx ys k) (cy ys k)) hlt hq, Bool.and_false]), (by repeat (first | exact ext_refl _ | (with_reducible assumption) | refine ext_ext' ?_ _ | refine ext_alloc' ?_ _ | refine ext_drew' ?_))⟩
        · go_roundw
          case rel => exact ⟨k + 1, hlt, int_succ k, allTo_succ HA.out hq, (by repeat (first | exact ext_refl _ | (with_reducible assumption) | refine ext_ext' ?_ _ | refine ext_alloc' ?_ _ | refine ext_drew' ?_))⟩
          case measure => simp [intOf]; omega
      · go_wp2_with fail
        go_ret
        obtain rfl : k = xs.length := by omega
        exact ⟨ret_bool (by rw [eqCells, HA.out, decide_eq_true HL.out]; rfl), (by repeat (first | exact ext_refl _ | (with_reducible assumption) | refine ext_ext' ?_ _ | refine ext_alloc' ?_ _ | refine ext_drew' ?_))⟩
  · have hne : ((xs.length : Int) != ys.length) = true := by simp; omega
    have HL := Lib.hid hl
    clear hl
    go_enter Tryz.func37, Tryz.ntmps37
    go_wp2_with fail
    go_ret
    exact ⟨ret_bool (by simp [eqCells, HL.out]), (by repeat (first | exact ext_refl _ | (with_reducible assumption) | refine ext_ext' ?_ _ | refine ext_alloc' ?_ _ | refine ext_drew' ?_))⟩
def szLeft (n : Nat) (left : Int) : Int := if left - n < 0 then -1 else left - n
theorem szCellS_any (cs : List (Int × Int)) (v : Value) (left : Int) (w : World) (h : CellsAt w v cs) (h1 : 0 ≤ left) (h2 : left ≤ 1048576) :
    Calls Tryz.prog 21 #[v, .int .i64 left] w fun e w' => e = .returned (.int .i64 (szLeft cs.length left)) ∧ ∃ x, w' = ext w x := by
  obtain ⟨a, b, o, cap, rfl, hc1, hc2, hc3, hcell⟩ := h.lopn
  clear hcell
  have HF := Lib.hid (show szLeft cs.length left = if left - cs.length < 0 then -1 else left - cs.length from rfl)
  by_cases hlt : left - cs.length < 0
  · go_enter Tryz.func21, Tryz.ntmps21
    go_wp2_with fail
    go_ret
    exact ⟨ret_int (by rw [HF.out, if_pos (by omega)]), (by repeat (first | exact ext_refl _ | (with_reducible assumption) | refine ext_ext' ?_ _ | refine ext_alloc' ?_ _ | refine ext_drew' ?_))⟩
  · go_enter Tryz.func21, Tryz.ntmps21
    go_wp2_with fail
    go_ret
    exact ⟨ret_int (by rw [HF.out, if_neg (by omega)]), (by repeat (first | exact ext_refl _ | (with_reducible assumption) | refine ext_ext' ?_ _ | refine ext_alloc' ?_ _ | refine ext_drew' ?_))⟩
end
section
open Go.ChangeShapes Go.WideShapes Go.ChangeAt Go.RowKit
abbrev rowC (v : Value) (cs : List (Int × Int)) : Row := ⟨v, 70, 2, cs.length, cs.flatMap cv⟩
theorem elemCell : Elem Tryz.prog 53 70 2 16 (.agg #[.int .i64 0, .int .i64 0]) := ⟨Tryz.underlying53, infoCell3, rfl, by decide⟩
theorem Sl_cell (w : World) (x y : Int) (t : TypeId) : Sl (w.alloc (.cells #[.int .i64 x, .int .i64 y] t)) 2 (.slice (some ⟨w.heap.size, 0, none⟩) 1 1) 1 [.int .i64 x, .int .i64 y] :=
  Sl_new w #[.int .i64 x, .int .i64 y] t 2 1 rfl (by simp [maxLen]) (by omega)
theorem one_cell (x y : Int) : ∀ u ∈ [Value.int .i64 x, Value.int .i64 y], u.oneCell' = true := by
  intro u hu
  simp at hu
  rcases hu with rfl | rfl <;> rfl
theorem Held.cells {W0 w : World} {L : List Row} (H : Held W0 w L) {v : Value} {cs : List (Int × Int)} (h : rowC v cs ∈ L) : CellsAt w v cs := H.sl h
theorem Held.cells0 {W0 w : World} {L : List Row} {v : Value} {cs : List (Int × Int)} (H : Held W0 w (rowC v cs :: L)) : CellsAt w v cs := H.sl List.mem_cons_self
theorem Held.oldC {W0 w : World} {L : List Row} (H : Held W0 w L) {v : Value} {cs : List (Int × Int)} (h : CellsAt W0 v cs) : CellsAt w v cs := h.mono H.bel
theorem Held.rowCV {W0 w : World} {L : List Row} {v : Value} {cs : List (Int × Int)} (H : Held W0 w (rowC v cs :: L)) : ∃ a c, v = .slice a cs.length c := own_slice (H.own _ List.mem_cons_self)
theorem Held.nilC {W0 w : World} {L : List Row} (H : Held W0 w L) : Held W0 w (rowC (.slice none 0 0) [] :: L) := ⟨H.bel, (fun r hr => by
    rcases List.mem_cons.1 hr with rfl | hr
    · exact World.ownsRow_nil _ _ _ _
    · exact H.own r hr), List.Pairwise.cons (fun r hr g hg => by cases hg) H.apart⟩
theorem Held.snocC {W0 w : World} {L : List Row} {v : Value} {cs : List (Int × Int)} {x y : Int} (H : Held W0 w (⟨v, 70, 2, cs.length + 1, cs.flatMap cv ++ [.int .i64 x, .int .i64 y]⟩ :: L)) : Held W0 w (rowC v (cs ++ [(x, y)]) :: L) := by
  rw [rowC, List.flatMap_append, List.length_append]
  exact H
/-- a fresh slice of cells -/
def CellsPost (w : World) (cs : List (Int × Int)) (e : Ending) (w' : World) : Prop := ∃ v', e = .returned v' ∧ Held w w' [rowC v' cs]
theorem CellsPost.nil {w w' : World} {cs : List (Int × Int)} (h : cs = []) (hx : ∃ x, w' = ext w x) : CellsPost w cs (.returned (.slice none 0 0)) w' := by
  subst h; exact ⟨_, rfl, ((Held.start w).to hx).nilC⟩
theorem CellsPost.empty {w w' : World} {cs : List (Int × Int)} {v : Value} {L : List Row} (h : cs = []) (H : Held w w' (⟨v, 70, 2, 0, []⟩ :: L)) : CellsPost w cs (.returned v) w' := by
  subst h; exact ⟨_, rfl, H.first⟩
theorem CellsPost.got {w w' : World} {cs ds : List (Int × Int)} {v : Value} {L : List Row} (h : cs = ds) (H : Held w w' (rowC v ds :: L)) : CellsPost w cs (.returned v) w' := by
  subst h; exact ⟨_, rfl, H.first⟩
end
section
open Go.ChangeShapes Go.WideShapes Go.ChangeAt Go.RowKit
theorem flat_set (cs : List (Int × Int)) (i : Nat) (x y : Int) : ((cs.flatMap cv).set (i * 2) (iv x)).set (i * 2 + 1) (iv y) = (cs.set i (x, y)).flatMap cv := by
  induction cs generalizing i with
  | nil => simp
  | cons c cs ih =>
    cases i with
    | zero => simp [cv]
    | succ i =>
      rw [show (i + 1) * 2 = i * 2 + 1 + 1 by omega]
      simp only [List.flatMap_cons, cv, List.cons_append, List.nil_append, List.set_cons_succ]
      rw [ih]
theorem Held.putC {W0 w : World} {L : List Row} {g n cap : Nat} {cs : List (Int × Int)} (H : Held W0 w (rowC (.slice (some ⟨g, 0, none⟩) n cap) cs :: L)) (i : Nat) (x y : Int) :
    Held W0 ((w.setCell ⟨g, i * 2, none⟩ (.int .i64 x)).setCell ⟨g, i * 2 + 1, none⟩ (.int .i64 y)) (rowC (.slice (some ⟨g, 0, none⟩) n cap) (cs.set i (x, y)) :: L) := by
  have hn : cs.length = n := by
    rcases (H.own _ List.mem_cons_self).2 with ⟨hv, _⟩ | ⟨g', cap', cur, hv, _⟩
    · cases hv
    · simp only [Value.slice.injEq] at hv; exact hv.2.1.symm
  subst hn
  have hown := H.own _ List.mem_cons_self
  simp only at hown
  have hst := hown.stored (i * 2) (.int .i64 x)
  have hst2 := hst.1.stored (i * 2 + 1) (.int .i64 y)
  have H2 := (H.write hst.2 hst.1).write hst2.2 hst2.1
  have e : ((cs.flatMap cv).set (i * 2) (Value.int .i64 x)).set (i * 2 + 1) (.int .i64 y) = (cs.set i (x, y)).flatMap cv := flat_set cs i x y
  rw [e] at H2
  rw [rowC, List.length_set]
  exact H2
theorem Held.cellC {W0 w : World} {L : List Row} {g n cap : Nat} {cs : List (Int × Int)} (H : Held W0 w (rowC (.slice (some ⟨g, 0, none⟩) n cap) cs :: L)) {i : Nat} (hi : i < cs.length) :
    w.cell? ⟨g, i * 2, none⟩ = some (.int .i64 (cx cs i)) ∧ w.cell? ⟨g, i * 2 + 1, none⟩ = some (.int .i64 (cy cs i)) ∧ ∀ k, w.frozen? ⟨g, k, none⟩ = false := by
  have hn : cs.length = n := by
    rcases (H.own _ List.mem_cons_self).2 with ⟨hv, _⟩ | ⟨g', cap', cur, hv, _⟩
    · cases hv
    · simp only [Value.slice.injEq] at hv; exact hv.2.1.symm
  subst hn
  have hown := H.own _ List.mem_cons_self
  simp only at hown
  have hf := flat_at cs i hi
  have hl := flat_len cs
  refine ⟨?_, ?_, fun k => hown.frozenAt k⟩
  · rw [hown.cellAt (i * 2) (by omega)]; exact hf.1
  · rw [hown.cellAt (i * 2 + 1) (by omega)]; exact hf.2
/-- a box that holds one value, as a row of the call's own -/
abbrev boxR (b : Nat) (t : Nat) (u : Value) : Row := ⟨.slice (some ⟨b, 0, none⟩) 1 1, t, 1, 1, [u]⟩
theorem Held.newBox {W0 w : World} {L : List Row} (H : Held W0 w L) (t : Nat) (u : Value) : Held W0 (w.alloc (.cells #[u] t)) (boxR w.heap.size t u :: L) :=
  H.push ((Below.refl _ _).alloc (Nat.le_refl _) _) ⟨rfl, .inr ⟨w.heap.size, 1, #[u], rfl, Nat.le_refl _, heap_alloc_new w _, Nat.le_refl _, by simp [maxLen], rfl, rfl⟩⟩
theorem Held.box {W0 w : World} {L : List Row} {b t : Nat} {u : Value} (H : Held W0 w L) (h : boxR b t u ∈ L) : w.cell? ⟨b, 0, none⟩ = some u ∧ w.frozen? ⟨b, 0, none⟩ = false := by
  have ho := H.own _ h
  exact ⟨by rw [ho.cellAt 0 (by show 0 < 1 * 1; omega)]; rfl, ho.frozenAt 0⟩
theorem Held.boxO {W0 w : World} {L : List Row} {b t : Nat} {u : Value} (H : Held W0 w L) (h : boxR b t u ∈ L) : Old w b := ⟨((H.own _ h).lt b rfl).2⟩
theorem Held.setBox {W0 w : World} {L : List Row} {b t : Nat} {u : Value} (H : Held W0 w (boxR b t u :: L)) (u' : Value) : Held W0 (w.setCell ⟨b, 0, none⟩ u') (boxR b t u' :: L) := by
  have hst := (H.own _ List.mem_cons_self).stored 0 u'
  exact H.write hst.2 hst.1
end
section
open Go.ChangeShapes Go.WideShapes Go.ChangeAt Go.RowKit
structure Strict {α : Type} (lt : α → α → Bool) : Prop where
  irr : ∀ a, lt a a = false
  trans : ∀ a b c, lt a b = true → lt b c = true → lt a c = true
  tot : ∀ a b, lt a b = false → lt b a = false → a = b
theorem Strict.asym {α : Type} {lt : α → α → Bool} (S : Strict lt) {a b : α} (h : lt a b = true) : lt b a = false := by
  cases h2 : lt b a
  · rfl
  · have := S.trans _ _ _ h h2
    rw [S.irr] at this; cases this
def Asc {α : Type} (lt : α → α → Bool) (l : List α) : Prop := l.Pairwise fun a b => lt a b = true
def putL {α : Type} (lt : α → α → Bool) (x : α) : List α → List α
  | [] => [x]
  | y :: l => if lt x y then x :: y :: l else if lt y x then y :: putL lt x l else y :: l
theorem mem_putL {α : Type} {lt : α → α → Bool} (S : Strict lt) {x z : α} {l : List α} : z ∈ putL lt x l ↔ z = x ∨ z ∈ l := by
  induction l with
  | nil => simp [putL]
  | cons y l ih =>
    simp only [putL]
    split
    · simp
    · split
      · simp only [List.mem_cons, ih]
        constructor
        · rintro (h | h | h) <;> simp [h]
        · rintro (h | h | h) <;> simp [h]
      · rename_i h1 h2
        have e : x = y := S.tot _ _ (by simpa using h1) (by simpa using h2)
        subst e
        simp
theorem asc_putL {α : Type} {lt : α → α → Bool} (S : Strict lt) {x : α} {l : List α} (h : Asc lt l) : Asc lt (putL lt x l) := by
  induction l with
  | nil => simp [putL, Asc]
  | cons y l ih =>
    have h' := List.pairwise_cons.1 h
    simp only [putL]
    split
    · rename_i h1
      refine List.pairwise_cons.2 ⟨fun z hz => ?_, h⟩
      rcases List.mem_cons.1 hz with rfl | hz
      · exact h1
      · exact S.trans _ _ _ h1 (h'.1 z hz)
    · split
      · rename_i h1 h2
        refine List.pairwise_cons.2 ⟨fun z hz => ?_, ih h'.2⟩
        rcases (mem_putL S).1 hz with rfl | hz
        · exact h2
        · exact h'.1 z hz
      · exact h
theorem asc_unique {α : Type} {lt : α → α → Bool} (S : Strict lt) : ∀ {l l' : List α}, Asc lt l → Asc lt l' → (∀ z, z ∈ l ↔ z ∈ l') → l = l'
  | [], [], _, _, _ => rfl
  | [], b :: l', _, _, h => absurd ((h b).2 List.mem_cons_self) (by simp)
  | a :: l, [], _, _, h => absurd ((h a).1 List.mem_cons_self) (by simp)
  | a :: l, b :: l', h1, h2, h => by
    have k1 := List.pairwise_cons.1 h1
    have k2 := List.pairwise_cons.1 h2
    have e : a = b := by
      rcases List.mem_cons.1 ((h a).1 List.mem_cons_self) with e | ha
      · exact e
      · rcases List.mem_cons.1 ((h b).2 List.mem_cons_self) with e | hb
        · exact e.symm
        · have q1 := k2.1 a ha
          have q2 := k1.1 b hb
          rw [S.asym q1] at q2; cases q2
    subst e
    have e2 : l = l' := asc_unique S k1.2 k2.2 fun z => by
      constructor
      · intro hz
        rcases List.mem_cons.1 ((h z).1 (List.mem_cons_of_mem _ hz)) with e | hz'
        · subst e; have := k1.1 z hz; rw [S.irr] at this; cases this
        · exact hz'
      · intro hz
        rcases List.mem_cons.1 ((h z).2 (List.mem_cons_of_mem _ hz)) with e | hz'
        · subst e; have := k2.1 z hz; rw [S.irr] at this; cases this
        · exact hz'
    rw [e2]
def sortL {α : Type} (lt : α → α → Bool) (xs : List α) : List α := xs.foldl (fun l x => putL lt x l) []
theorem foldl_putL {α : Type} {lt : α → α → Bool} (S : Strict lt) (xs : List α) : ∀ l, Asc lt l → Asc lt (xs.foldl (fun l x => putL lt x l) l) ∧ ∀ z, z ∈ xs.foldl (fun l x => putL lt x l) l ↔ z ∈ xs ∨ z ∈ l := by
  induction xs with
  | nil => intro l h; exact ⟨h, fun z => by simp⟩
  | cons x xs ih =>
    intro l h
    obtain ⟨h1, h2⟩ := ih (putL lt x l) (asc_putL S h)
    refine ⟨h1, fun z => ?_⟩
    rw [List.foldl_cons, h2, mem_putL S, List.mem_cons]
    constructor
    · rintro (h | h | h) <;> simp [h]
    · rintro ((h | h) | h) <;> simp [h]
theorem asc_sortL {α : Type} {lt : α → α → Bool} (S : Strict lt) (xs : List α) : Asc lt (sortL lt xs) := (foldl_putL S xs [] List.Pairwise.nil).1
theorem mem_sortL {α : Type} {lt : α → α → Bool} (S : Strict lt) {xs : List α} {z : α} : z ∈ sortL lt xs ↔ z ∈ xs := by
  have := (foldl_putL S xs [] List.Pairwise.nil).2 z
  simpa [sortL] using this
theorem sortL_snoc {α : Type} (lt : α → α → Bool) (xs : List α) (x : α) : sortL lt (xs ++ [x]) = putL lt x (sortL lt xs) := by simp [sortL]
theorem sortL_eq {α : Type} {lt : α → α → Bool} (S : Strict lt) {xs l : List α} (h : Asc lt l) (hm : ∀ z, z ∈ l ↔ z ∈ xs) : l = sortL lt xs :=
  asc_unique S h (asc_sortL S xs) fun z => by rw [mem_sortL S, hm]
theorem sortL_asc {α : Type} {lt : α → α → Bool} (S : Strict lt) {xs : List α} (h : Asc lt xs) : sortL lt xs = xs := (sortL_eq S h fun _ => Iff.rfl).symm
theorem putL_len {α : Type} (lt : α → α → Bool) (x : α) (l : List α) : (putL lt x l).length ≤ l.length + 1 := by
  induction l with
  | nil => simp [putL]
  | cons y l ih =>
    simp only [putL]
    split
    · simp
    · split
      · simp; exact ih
      · simp
theorem putL_pos {α : Type} (lt : α → α → Bool) (x : α) (l : List α) : 0 < (putL lt x l).length := by
  cases l with
  | nil => simp [putL]
  | cons y l =>
    simp only [putL]
    split
    · simp
    · split <;> simp
theorem sortL_len {α : Type} (lt : α → α → Bool) (xs : List α) : (sortL lt xs).length ≤ xs.length := by
  suffices h : ∀ l, (xs.foldl (fun l x => putL lt x l) l).length ≤ xs.length + l.length by simpa [sortL] using h []
  induction xs with
  | nil => intro l; simp
  | cons x xs ih =>
    intro l
    have h1 := ih (putL lt x l)
    have h2 := putL_len lt x l
    simp only [List.foldl_cons, List.length_cons]
    omega
theorem putL_in {α : Type} {lt : α → α → Bool} (S : Strict lt) {x : α} {l : List α} (h : Asc lt l) (hx : x ∈ l) : putL lt x l = l :=
  asc_unique S (asc_putL S h) h fun z => by
    rw [mem_putL S]
    constructor
    · rintro (rfl | h)
      · exact hx
      · exact h
    · exact .inr
theorem putL_at {α : Type} {lt : α → α → Bool} (S : Strict lt) {x : α} {l : List α} (h : Asc lt l) (k : Nat) (hlo : ∀ z ∈ l.take k, lt z x = true) (hhi : ∀ z ∈ l.drop k, lt x z = true) : putL lt x l = l.take k ++ x :: l.drop k := by
  refine asc_unique S (asc_putL S h) ?_ fun z => ?_
  · have h' : Asc lt (l.take k ++ l.drop k) := by rw [List.take_append_drop]; exact h
    obtain ⟨h1, h2, h3⟩ := List.pairwise_append.1 h'
    refine List.pairwise_append.2 ⟨h1, List.pairwise_cons.2 ⟨hhi, h2⟩, fun a ha b hb => ?_⟩
    rcases List.mem_cons.1 hb with rfl | hb
    · exact hlo a ha
    · exact h3 a ha b hb
  · rw [mem_putL S]
    have : z ∈ l ↔ z ∈ l.take k ∨ z ∈ l.drop k := by rw [← List.mem_append, List.take_append_drop]
    rw [this, List.mem_append, List.mem_cons]
    constructor
    · rintro (h | h | h) <;> simp [h]
    · rintro (h | h | h) <;> simp [h]
theorem lo_of {α : Type} {lt : α → α → Bool} (S : Strict lt) (d : α) {x : α} {l : List α} (h : Asc lt l) {k : Nat} (hk : k ≤ l.length) (h1 : k = 0 ∨ lt (l.getD (k - 1) d) x = true) : ∀ z ∈ l.take k, lt z x = true := by
  intro z hz
  obtain ⟨i, hi, rfl⟩ := List.getElem_of_mem hz
  rw [List.getElem_take]
  simp at hi
  rcases h1 with h1 | h1
  · omega
  · have e1 : l.getD (k - 1) d = l[k - 1]'(by omega) := by simp [List.getD, show k - 1 < l.length by omega]
    rw [e1] at h1
    by_cases hik : i = k - 1
    · subst hik; exact h1
    · exact S.trans _ _ _ ((List.pairwise_iff_getElem.1 h) i (k - 1) (by omega) (by omega) (by omega)) h1
theorem hi_of {α : Type} {lt : α → α → Bool} (S : Strict lt) (d : α) {x : α} {l : List α} (h : Asc lt l) {k : Nat} (h1 : k = l.length ∨ lt x (l.getD k d) = true) : ∀ z ∈ l.drop k, lt x z = true := by
  intro z hz
  obtain ⟨i, hi, rfl⟩ := List.getElem_of_mem hz
  rw [List.getElem_drop]
  simp at hi
  rcases h1 with h1 | h1
  · omega
  · have e1 : l.getD k d = l[k]'(by omega) := by simp [List.getD, show k < l.length by omega]
    rw [e1] at h1
    by_cases hi0 : i = 0
    · subst hi0; exact h1
    · exact S.trans _ _ _ h1 ((List.pairwise_iff_getElem.1 h) k (k + i) (by omega) (by omega) (by omega))
/-! ### once out of a row that is in order -/
def ddTo {α : Type} [DecidableEq α] (d : α) (l : List α) : Nat → List α := iter (fun i acc => if i = 0 ∨ l.getD (i - 1) d ≠ l.getD i d then acc ++ [l.getD i d] else acc) []
theorem ddTo_t {α : Type} [DecidableEq α] {d : α} {l : List α} {k : Nat} (h : k = 0 ∨ l.getD (k - 1) d ≠ l.getD k d) : ddTo d l (k + 1) = ddTo d l k ++ [l.getD k d] := by
  show (if k = 0 ∨ l.getD (k - 1) d ≠ l.getD k d then ddTo d l k ++ [l.getD k d] else ddTo d l k) = _
  rw [if_pos h]
theorem ddTo_f {α : Type} [DecidableEq α] {d : α} {l : List α} {k : Nat} (h0 : k ≠ 0) (h : l.getD (k - 1) d = l.getD k d) : ddTo d l (k + 1) = ddTo d l k := by
  show (if k = 0 ∨ l.getD (k - 1) d ≠ l.getD k d then ddTo d l k ++ [l.getD k d] else ddTo d l k) = _
  rw [if_neg (by simp only [not_or, Decidable.not_not]; exact ⟨h0, h⟩)]
theorem ddTo_len {α : Type} [DecidableEq α] (d : α) (l : List α) (k : Nat) : (ddTo d l k).length ≤ k := by
  induction k with
  | zero => simp [ddTo, iter]
  | succ k ih =>
    by_cases h : k = 0 ∨ l.getD (k - 1) d ≠ l.getD k d
    · rw [ddTo_t h]; simp; exact ih
    · simp only [not_or, Decidable.not_not] at h
      rw [ddTo_f h.1 h.2]; omega
theorem ddTo_sound {α : Type} [DecidableEq α] {lt : α → α → Bool} (S : Strict lt) (d : α) (l : List α) (hs : l.Pairwise fun a b => lt b a = false) : ∀ k, k ≤ l.length → Asc lt (ddTo d l k) ∧ (∀ z, z ∈ ddTo d l k ↔ z ∈ l.take k) := by
  intro k
  induction k with
  | zero => intro _; exact ⟨List.Pairwise.nil, fun z => by simp [ddTo, iter]⟩
  | succ k ih =>
    intro hk
    obtain ⟨i1, i2⟩ := ih (by omega)
    have ek : l.getD k d = l[k] := by simp [List.getD, show k < l.length by omega]
    have et : l.take (k + 1) = l.take k ++ [l[k]] := List.take_succ_eq_append_getElem (by omega)
    have hle : ∀ z ∈ l.take k, lt l[k] z = false := fun z hz => by
      obtain ⟨i, hi, rfl⟩ := List.getElem_of_mem hz
      rw [List.getElem_take]
      simp at hi
      exact (List.pairwise_iff_getElem.1 hs) i k (by omega) (by omega) (by omega)
    by_cases h : k = 0 ∨ l.getD (k - 1) d ≠ l.getD k d
    · rw [ddTo_t h, et, ek]
      refine ⟨List.pairwise_append.2 ⟨i1, by simp, fun a ha b hb => ?_⟩, fun z => by rw [List.mem_append, List.mem_append, i2]⟩
      have hb' : b = l[k] := by simpa using hb
      subst hb'
      have ha' := (i2 a).1 ha
      cases h4 : lt a l[k]
      · exfalso
        have e := S.tot _ _ h4 (hle a ha')
        rcases h with h | h
        · subst h; simp at ha'
        · apply h
          have hk0 : 0 < k := by
            rcases Nat.eq_zero_or_pos k with e0 | e0
            · subst e0; simp at ha'
            · exact e0
          have e1 : l.getD (k - 1) d = l[k - 1] := by simp [List.getD, show k - 1 < l.length by omega]
          rw [e1, ek]
          obtain ⟨i, hi, hia⟩ := List.getElem_of_mem ha'
          rw [List.getElem_take] at hia
          simp at hi
          have q2 : lt l[k] l[k - 1] = false := hle _ (by rw [List.mem_iff_getElem]; exact ⟨k - 1, by simp; omega, by rw [List.getElem_take]⟩)
          apply S.tot _ _ ?_ q2
          by_cases hik : i = k - 1
          · subst hik; rw [hia]; exact h4
          · have q1 := (List.pairwise_iff_getElem.1 hs) i (k - 1) (by omega) (by omega) (by omega)
            rw [hia, e] at q1
            exact q1
      · rfl
    · simp only [not_or, Decidable.not_not] at h
      rw [ddTo_f h.1 h.2, et]
      refine ⟨i1, fun z => ?_⟩
      have e1 : l.getD (k - 1) d = l[k - 1]'(by omega) := by simp [List.getD, show k - 1 < l.length by omega]
      rw [List.mem_append, i2]
      constructor
      · exact .inl
      · rintro (hz | hz)
        · exact hz
        · have : z = l[k] := by simpa using hz
          rw [this, ← ek, ← h.2, e1, List.mem_iff_getElem]
          exact ⟨k - 1, by simp; omega, by rw [List.getElem_take]⟩
theorem dd_sort {α : Type} [DecidableEq α] {lt : α → α → Bool} (S : Strict lt) (d : α) {l xs : List α} (hs : l.Pairwise fun a b => lt b a = false) (hp : ∀ z, z ∈ l ↔ z ∈ xs) : ddTo d l l.length = sortL lt xs := by
  obtain ⟨h1, h2⟩ := ddTo_sound S d l hs l.length (Nat.le_refl _)
  exact sortL_eq S h1 fun z => by rw [h2, List.take_length, hp]
end
end Go.Proofs.YtmehmpammjcnkabGreat
