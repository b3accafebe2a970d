/- Part 1 of a proof: base, sl, held, ints, copyints, marks, hold2, boxes, box2, tabs, between, cells, copycells, rowc, opens, szints, copyregion, slsl, queue, numbers, dots, extend, markreg, heldreg, marksc. -/
import Derived.Test.YtchcepihmphdmaaRows
import Derived.WalkKit
import Derived.ProofKit
import Derived.OpenShut
import Derived.BigQuiet
import Derived.Lib.Hide
import Derived.Deep.QuietTactic
import Derived.Outline
import Derived.OrdersHeld
import Derived.Laws.AppendOwnNone
import Derived.Deep.AppendLies
import Derived.Lib.SmallJoins
namespace Go.Proofs.Ytchcepihmphdmaa
set_option linter.unusedVariables false
section
open Go.ChangeShapes Go.WideShapes Go.ChangeAt Go.RowKit
/-- New blocks behind those of a world, and another count of draws. -/
structure Ext where
  bs : Array Obj
  d : Nat
instance : Nonempty Ext := ⟨⟨#[], 0⟩⟩
def ext (w : World) (x : Ext) : World := { w with heap := w.heap ++ x.bs, drawn := x.d }
/-- block n lies in w -/
class Old (w : World) (n : Nat) : Prop where
  lt : n < w.heap.size
/-- w has n blocks -/
class SizeIs (w : World) (n : Nat) : Prop where
  eq : w.heap.size = n
section
variable (w : World) (x y : Ext)
theorem size_ext : (ext w x).heap.size = w.heap.size + x.bs.size := by simp [ext]
theorem ext_ext : ext (ext w x) y = ext w ⟨x.bs ++ y.bs, y.d⟩ := by simp [ext, Array.append_assoc]
@[go_sem] theorem drew_ext : (ext w x).drew = ext w ⟨x.bs, x.d + 1⟩ := rfl
@[go_sem] theorem drawn_ext : ({ ext w x with drawn := (ext w x).drawn + 1 } : World) = ext w ⟨x.bs, x.d + 1⟩ := rfl
@[go_sem] theorem tape_ext : (ext w x).tape = w.tape := rfl
@[go_sem] theorem os_ext : (ext w x).os = w.os := rfl
@[go_sem] theorem output_ext : (ext w x).output = w.output := rfl
theorem lt_ext {n : Nat} (h : n < w.heap.size) : n < (ext w x).heap.size := by rw [size_ext]; omega
theorem lt_alloc {n : Nat} (o : Obj) (h : n < w.heap.size) : n < (w.alloc o).heap.size := by rw [World.size_alloc]; omega
instance old_ext {n : Nat} [h : Old w n] : Old (ext w x) n := ⟨lt_ext w x h.lt⟩
instance old_alloc {n : Nat} (o : Obj) [h : Old w n] : Old (w.alloc o) n := ⟨lt_alloc w o h.lt⟩
instance old_new (o : Obj) {n : Nat} [h : SizeIs w n] : Old (w.alloc o) n := ⟨by rw [World.size_alloc, h.eq]; omega⟩
instance size_new (o : Obj) {n : Nat} [h : SizeIs w n] : SizeIs (w.alloc o) (n + 1) := ⟨by rw [World.size_alloc, h.eq]⟩
instance size_set {n : Nat} (a : Addr) (v : Value) [h : SizeIs w n] : SizeIs (w.setCell a v) n := ⟨by rw [World.size_setCell, h.eq]⟩
instance size_drew {n : Nat} [h : SizeIs w n] : SizeIs w.drew n := ⟨h.eq⟩
instance (priority := low) size_self : SizeIs w w.heap.size := ⟨rfl⟩
instance old_drew {n : Nat} [h : Old w n] : Old w.drew n := ⟨h.lt⟩
instance old_set {n : Nat} (a : Addr) (v : Value) [h : Old w n] : Old (w.setCell a v) n := ⟨by rw [World.size_setCell]; exact h.lt⟩
theorem heap_ext {n : Nat} (h : n < w.heap.size) : (ext w x).heap[n]? = w.heap[n]? := by
  simp [ext, Array.getElem?_append_left h]
@[go_sem] theorem cell?_ext {n i : Nat} [h : Old w n] : (ext w x).cell? ⟨n, i, none⟩ = w.cell? ⟨n, i, none⟩ := by
  simp only [World.cell?, heap_ext w x h.lt]
@[go_sem] theorem cell?_old {n i : Nat} (o : Obj) [h : Old w n] : (w.alloc o).cell? ⟨n, i, none⟩ = w.cell? ⟨n, i, none⟩ := World.cell?_alloc_past o n i h.lt
@[go_sem] theorem frozen?_old {n i : Nat} (o : Obj) [h : Old w n] : (w.alloc o).frozen? ⟨n, i, none⟩ = w.frozen? ⟨n, i, none⟩ := World.frozen?_alloc_past o n i h.lt
@[go_sem] theorem setCell_old {n i : Nat} (o : Obj) (v : Value) [h : Old w n] : (w.alloc o).setCell ⟨n, i, none⟩ v = (w.setCell ⟨n, i, none⟩ v).alloc o := World.setCell_alloc_past o n i v h.lt
@[go_sem] theorem frozen?_ext {n i : Nat} [h : Old w n] : (ext w x).frozen? ⟨n, i, none⟩ = w.frozen? ⟨n, i, none⟩ := by
  simp only [World.frozen?, heap_ext w x h.lt]
@[go_sem] theorem shape?_ext {n : Nat} [h : Old w n] : (ext w x).shape? n = w.shape? n := by
  simp only [World.shape?, heap_ext w x h.lt]
@[go_sem] theorem setCell_ext {n i : Nat} (v : Value) [ho : Old w n] : (ext w x).setCell ⟨n, i, none⟩ v = ext (w.setCell ⟨n, i, none⟩ v) x := by
  have h := ho.lt
  simp only [World.setCell, ext]
  congr 1
  apply Array.ext_getElem?
  intro k
  simp only [Array.getElem?_modify, Array.getElem?_append, Array.size_modify]
  by_cases hk : n = k
  · subst hk; simp [h]
  · simp [hk]
end
theorem ext_zero (w : World) : w = ext w ⟨#[], w.drawn⟩ := by simp [ext]
theorem ext_alloc (w : World) (o : Obj) : ∃ x, w.alloc o = ext w x := ⟨⟨#[o], w.drawn⟩, by simp only [ext, Array.append_singleton]; rfl⟩
theorem Below_ext (w : World) (x : Ext) : Below w.heap.size w (ext w x) := ⟨rfl, rfl, rfl, by simp [size_ext], fun k hk => heap_ext w x hk⟩
theorem ext_of {w w' : World} (h : Below w.heap.size w w') : ∃ x, w' = ext w x := by
  refine ⟨⟨w'.heap.extract w.heap.size w'.heap.size, w'.drawn⟩, ?_⟩
  obtain ⟨h1, h2, h3, h4, h5⟩ := h
  cases w'
  simp only [ext] at *
  subst h1; subst h2; subst h3
  congr 1
  apply Array.ext_getElem?
  intro k
  rw [Array.getElem?_append]
  split
  · exact h5 k (by assumption)
  · rename_i hk
    rw [Array.getElem?_extract]
    by_cases hk2 : k < Array.size (by assumption : Array Obj)
    · rw [if_pos (by omega)]
      congr 1
      omega
    · rw [if_neg (by omega)]
      simp
      omega
theorem Calls_ext_of {P : Program} {f : FuncId} {args : Array Value} {w : World} {x : Ext} {v : Value}
    (h : Calls P f args (ext w x) fun e w' => e = .returned v ∧ ∃ y, w' = ext (ext w x) y) : Calls P f args (ext w x) fun e w'' => e = .returned v ∧ ∃ y, w'' = ext w y :=
  h.mono fun _ _ ⟨he, m, hm⟩ => ⟨he, ⟨x.bs ++ m.bs, m.d⟩, by rw [hm, ext_ext]⟩
theorem wp_region_ext_lit {P : Program} {id : Nat} {Q : Exit → Act → World → Prop} {a : Act} {w : World} {l : List Oper} (hm : P.follows .mixedOrders = true) (hB : Region.lexB .any l.toArray = true)
    (h : wpQuiet P l.toArray (fun w' => ∃ x, w' = ext w x) (fun a' => ∀ w', (∃ x, w' = ext w x) → Q .normal a' w') l a) : (Code.region id l.toArray true).wp P Q a w :=
  wp_region_quiet (C := fun w' => ∃ x, w' = ext w x) hm hB ⟨⟨#[], w.drawn + 1⟩, by simp [ext]⟩ (by simpa using h)
theorem bel_of_ext {w w' : World} (h : ∃ x, w' = ext w x) : Below w.heap.size w w' := by obtain ⟨x, rfl⟩ := h; exact Below_ext w x
theorem ext_trans {w w1 w2 : World} (h : ∃ x, w1 = ext w x) (k : ∃ x, w2 = ext w1 x) : ∃ x, w2 = ext w x := by
  obtain ⟨x, rfl⟩ := h; obtain ⟨y, rfl⟩ := k; exact ⟨_, ext_ext w x y⟩
theorem ext_refl (w : World) : ∃ x, w = ext w x := ⟨_, ext_zero w⟩
theorem ext_alloc' {w w1 : World} (h : ∃ x, w1 = ext w x) (o : Obj) : ∃ x, w1.alloc o = ext w x := ext_trans h (ext_alloc w1 o)
theorem ext_ext' {w w1 : World} (h : ∃ x, w1 = ext w x) (y : Ext) : ∃ x, ext w1 y = ext w x := ext_trans h ⟨y, rfl⟩
theorem ext_drew' {w w1 : World} (h : ∃ x, w1 = ext w x) : ∃ x, w1.drew = ext w x := ext_trans h ⟨⟨#[], w1.drawn + 1⟩, by simp only [ext, Array.append_empty]; rfl⟩
theorem ret_bool {a b : Bool} (h : a = b) : Ending.returned (.bool a) = .returned (.bool b) := by rw [h]
theorem ret_int {a b : Int} (h : a = b) : Ending.returned (.int .i64 a) = .returned (.int .i64 b) := by rw [h]
theorem bool_not {b : Bool} (h : (!b) = true) : b = false := by simpa using h
theorem bool_not' {b : Bool} (h : (!b) = false) : b = true := by simpa using h
theorem int_succ (k : Nat) : Value.int .i64 ((k : Int) + 1) = .int .i64 ((k + 1 : Nat) : Int) := by simp
theorem Calls_ext_of2 {P : Program} {f : FuncId} {args : Array Value} {w : World} {b c : Array Obj} {d : Nat} {v : Value}
    (h : Calls P f args (ext w ⟨b ++ c, d⟩) fun e w' => e = .returned v ∧ ∃ y, w' = ext (ext w ⟨b ++ c, d⟩) y) : Calls P f args (ext w ⟨b ++ c, d⟩) fun e w'' => e = .returned v ∧ ∃ y : Ext, w'' = ext w ⟨b ++ y.bs, y.d⟩ :=
  h.mono fun _ _ ⟨he, m, hm⟩ => ⟨he, ⟨c ++ m.bs, m.d⟩, by rw [hm, ext_ext]; simp only [Array.append_assoc]⟩
theorem own_slice {w : World} {B e sz : Nat} {v : Value} {n : Nat} {xs : List Value} (h : w.ownsRow B e sz v n xs) : ∃ a cap, v = .slice a n cap := by
  rcases h.2 with ⟨rfl, rfl⟩ | ⟨g, cap, cur, rfl, _⟩
  · exact ⟨_, _, rfl⟩
  · exact ⟨_, _, rfl⟩
theorem own_move {W W' : World} {x : Ext} {B e sz : Nat} {v : Value} {n : Nat} {xs : List Value} (h : (ext W x).ownsRow B e sz v n xs) (hs : W'.heap.size = W.heap.size) (hB : W.heap.size ≤ B) : (ext W' x).ownsRow B e sz v n xs := by
  refine ⟨h.1, ?_⟩
  rcases h.2 with h2 | ⟨g, cap, cur, h1, h2, h3, h4⟩
  · exact .inl h2
  · refine .inr ⟨g, cap, cur, h1, h2, ?_, h4⟩
    rw [← h3]
    simp only [ext, Array.getElem?_append, hs]
    rw [if_neg (by omega), if_neg (by omega)]
theorem own_base {w : World} {B B' e sz : Nat} {v : Value} {n : Nat} {xs : List Value} (h : w.ownsRow B e sz v n xs) (hB : B' ≤ B) : w.ownsRow B' e sz v n xs := by
  refine ⟨h.1, ?_⟩
  rcases h.2 with h2 | ⟨g, cap, cur, h1, h2, h3⟩
  · exact .inl h2
  · exact .inr ⟨g, cap, cur, h1, Nat.le_trans hB h2, h3⟩
theorem wp_region_heldE {P : Program} {id : Nat} {Q : Exit → Act → World → Prop} {a : Act} {w : World} {ops : Array Oper} (hm : P.follows .mixedOrders = true)
    (h : wpAnyH P .any ops Q (fun w' => ∃ x, w' = ext w x) ops.size (Array.replicate ops.size false) a (ext w ⟨#[], w.drawn + 1⟩)) : (Code.region id ops true).wp P Q a w :=
  wp_region_held hm (by simpa [ext] using h)
theorem takeE {P : Program} {ops : Array Oper} {Q : Exit → Act → World → Prop} {W : World} {i : Nat} {oi : Oper} {v : Value} {fuel : Nat} {listed : Array Bool} {a : Act} {w : World} (hi : ops[i]? = some oi)
    (hs : Region.noSelect ops = true) (hf : Region.free .any ops listed i = true) (hr : (Region.ready .any ops listed).contains i = true)
    (hQ : ∀ c a w, Q (.panic c) (a.put oi.dst v) w → Q (.panic c) a w) (hw : Region.wanted oi (yielded ops a.tmps) = true) (hy : ∀ x, (execOp a.eval oi).run P (ext W x) = .ok (.value v) (ext W x)) (hS : ∃ x, w = ext W x)
    (h : wpAnyH P .any ops Q (fun w' => ∃ x, w' = ext W x) fuel (listed.setIfInBounds i true) (a.put oi.dst v) w) : wpAnyH P .any ops Q (fun w' => ∃ x, w' = ext W x) (fuel + 1) listed a w :=
  wpAnyH_take hi hs hf hr hQ (.inl ⟨hw, by rintro _ ⟨x, rfl⟩; exact hy x⟩) hS h
theorem nextE {P : Program} {ops : Array Oper} {Q : Exit → Act → World → Prop} {S : World → Prop} {i : Nat} {o : Oper} {fuel : Nat} {listed : Array Bool} {a : Act} {w : World} (ho : ops[i]? = some o)
    (hr : Region.ready .any ops listed = [i]) (hw : Region.wanted o (yielded ops a.tmps) = true)
    (h : ∀ K' : Act → World → Prop, Hid (∀ a w, S w → wpAnyH P .any ops Q S fuel (listed.setIfInBounds i true) a w → K' a w) → Oper.wp P o a w K' Q) : wpAnyH P .any ops Q S (fuel + 1) listed a w :=
  wpAnyH_all hr (by simp) fun j hj => by
    obtain rfl : j = i := by simpa using hj
    exact wpOp_step ho (fun K' hK => by rw [if_pos hw]; exact h K' (fun a w hS hW => hK a w ⟨hS, hW⟩))
end
section
open Go.ChangeShapes Go.WideShapes Go.ChangeAt Go.RowKit
/-- the k-th number of a list (0 behind its end); kept closed to simp -/
def nth (xs : List Int) (k : Nat) : Int := xs.getD k 0
def iter {α : Type} (f : Nat → α → α) (a : α) : Nat → α
  | 0 => a
  | n + 1 => f n (iter f a n)
def allTo (p : Nat → Bool) : Nat → Bool
  | 0 => true
  | n + 1 => allTo p n && p n
theorem allTo_false {p : Nat → Bool} {k n : Nat} (h : k < n) (hk : p k = false) : allTo p n = false := by
  induction n with
  | zero => omega
  | succ n ih =>
    simp only [allTo]
    by_cases e : k = n
    · subst e; simp [hk]
    · rw [ih (by omega)]; rfl
theorem allTo_true {p : Nat → Bool} {n : Nat} : allTo p n = true ↔ ∀ k, k < n → p k = true := by
  induction n with
  | zero => simp [allTo]
  | succ n ih =>
    simp only [allTo, Bool.and_eq_true, ih]
    constructor
    · rintro ⟨h1, h2⟩ k hk
      by_cases e : k = n
      · subst e; exact h2
      · exact h1 k (by omega)
    · intro h
      exact ⟨fun k hk => h k (by omega), h n (by omega)⟩
theorem allTo_succ {p : Nat → Bool} {k : Nat} (h : allTo p k = true) (hk : p k = true) : allTo p (k + 1) = true := by simp [allTo, h, hk]
/-- v is a slice of n elements of sz cells each, which hold cs -/
def Sl (w : World) (sz : Nat) (v : Value) (n : Nat) (cs : List Value) : Prop :=
  ∃ a b o cap, v = .slice a n cap ∧ n ≤ cap ∧ cap ≤ maxLen ∧ cs.length = n * sz ∧ (0 < n → a = some ⟨b, o, none⟩ ∧ b < w.heap.size) ∧ ∀ i, i < cs.length → w.cell? ⟨b, o + i, none⟩ = cs[i]?
theorem Sl.mono {w w' : World} {sz : Nat} {v : Value} {n : Nat} {cs : List Value} (h : Sl w sz v n cs) (hb : Below w.heap.size w w') : Sl w' sz v n cs := by
  obtain ⟨a, b, o, cap, rfl, h1, h2, h3, h4, h5⟩ := h
  refine ⟨a, b, o, cap, rfl, h1, h2, h3, fun hn => ⟨(h4 hn).1, Nat.lt_of_lt_of_le (h4 hn).2 hb.size⟩, fun i hi => ?_⟩
  have hn : 0 < n := by
    rcases Nat.eq_zero_or_pos n with e | e
    · subst e; simp at h3; simp [h3] at hi
    · exact e
  rw [← h5 i hi]
  exact hb.cell (p := ⟨b, o + i, none⟩) (h4 hn).2
theorem Sl.ext {w : World} {sz : Nat} {v : Value} {n : Nat} {cs : List Value} (h : Sl w sz v n cs) (x : Ext) : Sl (ext w x) sz v n cs := h.mono (Below_ext w x)
theorem Sl.alloc {w : World} {sz : Nat} {v : Value} {n : Nat} {cs : List Value} (h : Sl w sz v n cs) (o : Obj) : Sl (w.alloc o) sz v n cs :=
  h.mono ((Below.refl _ _).alloc (Nat.le_refl _) o)
theorem Sl_own {w : World} {base e sz : Nat} {v : Value} {n : Nat} {cs : List Value} (h : w.ownsRow base e sz v n cs) : Sl w sz v n cs := by
  obtain ⟨h1, h2⟩ := h
  rcases h2 with ⟨rfl, rfl⟩ | ⟨g, cap, cur, rfl, hb, hg, hnc, hcm, hcs, htake⟩
  · exact ⟨none, 0, 0, 0, rfl, Nat.le_refl _, by simp [maxLen], h1, fun h => absurd h (by omega), fun i hi => by simp at h1; simp [h1] at hi⟩
  · refine ⟨_, g, 0, cap, rfl, hnc, hcm, h1, fun _ => ⟨rfl, (Array.getElem?_eq_some_iff.1 hg).1⟩, fun i hi => ?_⟩
    rw [Nat.zero_add, cell_of_row w g i cur e (0, 0) hg, ← htake, List.getElem?_take, if_pos (by omega)]
    simp
theorem idx_run {t e sz : Nat} {z : Option Value} {P : Program} (ht : P.underlying t = some (.slice e)) (hi : (P.info? e).map (fun i => i.size) = some sz)
    (b o n cap k : Nat) (h : k < n) (w : World) :
    (Instr.indexAt t (.slice (some ⟨b, o, none⟩) n cap) (.int .i64 k)).run P w = .ok (.pointer (some ⟨b, o + k * sz, none⟩)) w := by
  obtain ⟨i, hi1, hi2⟩ := Option.map_eq_some_iff.1 hi
  subst hi2
  simp [Instr.indexAt, asIntOf, run_underlying ht, sizeOf, typeInfo, hi1, h, Addr.add]
theorem Sl.idx {w : World} {sz : Nat} {v : Value} {n : Nat} {cs : List Value} (h : Sl w sz v n cs) {t e : Nat} {P : Program} (ht : P.underlying t = some (.slice e)) (hi : (P.info? e).map (fun i => i.size) = some sz) :
    ∃ a b o cap, v = .slice a n cap ∧ n ≤ cap ∧ n ≤ 9223372036854775807 ∧ cap ≤ 9223372036854775807 ∧ ∀ k, k < n → Old w b ∧ (∀ w', (Instr.indexAt t (.slice a n cap) (.int .i64 k)).run P w' = .ok (.pointer (some ⟨b, o + k * sz, none⟩)) w') ∧
      ∀ j, j < sz → w.cell? ⟨b, o + k * sz + j, none⟩ = cs[k * sz + j]? := by
  obtain ⟨a, b, o, cap, rfl, h1, h2, h3, h4, h5⟩ := h
  unfold maxLen at h2
  refine ⟨a, b, o, cap, rfl, h1, by omega, by omega, fun k hk => ?_⟩
  obtain ⟨rfl, hb⟩ := h4 (by omega)
  refine ⟨⟨hb⟩, fun w' => idx_run (z := none) ht hi b o n cap k hk w', fun j hj => ?_⟩
  have : k * sz + j < n * sz := by
    have : (k + 1) * sz ≤ n * sz := Nat.mul_le_mul_right _ hk
    rw [Nat.add_mul] at this
    omega
  rw [Nat.add_assoc]
  exact h5 _ (by omega)
/-! ### numbers -/
def iv (n : Int) : Value := .int .i64 n
def IntsAt (w : World) (v : Value) (xs : List Int) : Prop := Sl w 1 v xs.length (xs.map iv)
theorem IntsAt.mono {w w' : World} {v : Value} {xs : List Int} (h : IntsAt w v xs) (hb : Below w.heap.size w w') : IntsAt w' v xs := Sl.mono h hb
theorem IntsAt.ext {w : World} {v : Value} {xs : List Int} (h : IntsAt w v xs) (x : Ext) : IntsAt (ext w x) v xs := Sl.ext h x
theorem IntsAt.alloc {w : World} {v : Value} {xs : List Int} (h : IntsAt w v xs) (o : Obj) : IntsAt (w.alloc o) v xs := Sl.alloc h o
theorem nth_get {xs : List Int} {k : Nat} (h : k < xs.length) : xs[k] = nth xs k := by simp [nth, h]
theorem getElem_of_nth {xs : List Int} {k : Nat} (h : k < xs.length) : (xs.map iv)[k]? = some (.int .i64 (nth xs k)) := by
  rw [← nth_get h]; simp [iv, h]
theorem Sl_of_cells {W : World} {sz : Nat} {ad : Addr} {len cap : Nat} {cs : List Value} (h1 : len ≤ cap) (h2 : cap ≤ maxLen) (h3 : cs.length = len * sz) (h0 : 0 < sz) (hc : ∀ i, i < cs.length → W.cell? (ad.add i) = cs[i]?) :
    Sl W sz (.slice (some ad) len cap) len cs := by
  by_cases hp : 0 < len
  · have hp' : 0 < cs.length := by rw [h3]; exact Nat.mul_pos hp h0
    obtain ⟨b, o, spot⟩ := ad
    have hs : spot = none := by
      have := hc 0 hp'
      rw [List.getElem?_eq_getElem hp'] at this
      simpa [Addr.add] using World.cell?_spot this
    subst hs
    refine ⟨_, b, o, cap, rfl, h1, h2, h3, fun _ => ⟨rfl, ?_⟩, fun i hi => ?_⟩
    · have := hc 0 hp'
      rw [List.getElem?_eq_getElem hp'] at this
      simp only [Addr.add, if_true] at this
      exact World.block_lt_of_cell? W ⟨b, o, none⟩ this
    · rw [← hc i hi, Go.WideShapes.add_plain]
  · obtain rfl : len = 0 := by omega
    exact ⟨_, 0, 0, cap, rfl, h1, h2, h3, fun h => absurd h hp, fun i hi => by simp at h3; simp [h3] at hi⟩
end
section
open Go.ChangeShapes Go.WideShapes Go.ChangeAt Go.RowKit
/-- one row: its value, the element's type, the cells of an element, the number of elements, the cells -/
structure Row where
  v : Value
  e : Nat
  sz : Nat
  n : Nat
  cs : List Value
/-- since W0 nothing old has changed; the rows L are the call's own, each in a block of its own -/
structure Held (W0 w : World) (L : List Row) : Prop where
  bel : Below W0.heap.size W0 w
  own : ∀ r ∈ L, w.ownsRow W0.heap.size r.e r.sz r.v r.n r.cs
  apart : L.Pairwise fun r r' => ∀ g, r.v.ownBlock = some g → r'.v.ownBlock ≠ some g
theorem Held.start (w : World) : Held w w [] := ⟨Below.refl _ _, (fun r h => by cases h), List.Pairwise.nil⟩
theorem Held.le {W0 w : World} {L : List Row} (H : Held W0 w L) : W0.heap.size ≤ w.heap.size := H.bel.size
theorem Held.grow {W0 w w' : World} {L : List Row} (H : Held W0 w L) (h : Below w.heap.size w w') : Held W0 w' L := by
  refine ⟨H.bel.trans (h.mono H.le), fun r hr => ?_, H.apart⟩
  have ho := H.own r hr
  refine ⟨ho.1, ?_⟩
  rcases ho.2 with h2 | ⟨g, cap, cur, h1, h2, h3, h4⟩
  · exact .inl h2
  · exact .inr ⟨g, cap, cur, h1, h2, by rw [h.block g (Array.getElem?_eq_some_iff.1 h3).1]; exact h3, h4⟩
theorem Held.ext {W0 w : World} {L : List Row} (H : Held W0 w L) (x : Ext) : Held W0 (ext w x) L := H.grow (Below_ext w x)
theorem Held.to {W0 w w' : World} {L : List Row} (H : Held W0 w L) (h : ∃ x, w' = Proofs.Ytchcepihmphdmaa.ext w x) : Held W0 w' L := H.grow (bel_of_ext h)
/-- a row that was made since w -/
theorem Held.push {W0 w w' : World} {L : List Row} {v : Value} {e sz n : Nat} {cs : List Value} (H : Held W0 w L) (h : Below w.heap.size w w') (ho : w'.ownsRow w.heap.size e sz v n cs) : Held W0 w' (⟨v, e, sz, n, cs⟩ :: L) := by
  have H' := H.grow h
  refine ⟨H'.bel, fun r hr => ?_, List.Pairwise.cons (fun r hr g hg hg' => ?_) H'.apart⟩
  · rcases List.mem_cons.1 hr with rfl | hr
    · exact own_base ho H.le
    · exact H'.own r hr
  · have h1 := (ho.lt g hg).1
    have h2 := ((H.own r hr).lt g hg').2
    omega
theorem Held.drop {W0 w : World} {L : List Row} {r : Row} (H : Held W0 w (r :: L)) : Held W0 w L :=
  ⟨H.bel, fun r' h => H.own r' (List.mem_cons_of_mem _ h), H.apart.of_cons⟩
theorem Held.sl {W0 w : World} {L : List Row} (H : Held W0 w L) {v : Value} {e sz n : Nat} {cs : List Value} (h : (⟨v, e, sz, n, cs⟩ : Row) ∈ L) : Sl w sz v n cs := Sl_own (H.own _ h)
theorem Held.old {W0 w : World} {L : List Row} (H : Held W0 w L) {v : Value} {sz n : Nat} {cs : List Value} (h : Sl W0 sz v n cs) : Sl w sz v n cs := h.mono H.bel
/-- the first row's cells have changed, nothing else -/
theorem Held.write {W0 w w' : World} {L : List Row} {r : Row} {cs : List Value} (H : Held W0 w (r :: L)) (hg : w.grownBy w' r.v.ownBlock) (ho : w'.ownsRow W0.heap.size r.e r.sz r.v r.n cs) : Held W0 w' (⟨r.v, r.e, r.sz, r.n, cs⟩ :: L) := by
  have hr0 := H.own r List.mem_cons_self
  refine ⟨H.bel.grown hg H.le (fun k hk => (hr0.lt k hk).1), fun r' hr' => ?_, ?_⟩
  · rcases List.mem_cons.1 hr' with rfl | hr'
    · exact ho
    · refine (H.own r' (List.mem_cons_of_mem _ hr')).kept hg ?_
      cases hb : r'.v.ownBlock with
      | none => exact .inl rfl
      | some g =>
        refine .inr fun e => ?_
        exact (List.pairwise_cons.1 H.apart).1 r' hr' g e.symm hb
  · exact List.Pairwise.cons (List.pairwise_cons.1 H.apart).1 H.apart.of_cons
theorem Held.swap {W0 w : World} {L : List Row} {r r' : Row} (H : Held W0 w (r :: r' :: L)) : Held W0 w (r' :: r :: L) := by
  refine ⟨H.bel, fun q hq => H.own q (by simp only [List.mem_cons] at hq ⊢; rcases hq with h | h | h <;> simp [h]), ?_⟩
  have h := H.apart
  rw [List.pairwise_cons, List.pairwise_cons] at h
  rw [List.pairwise_cons, List.pairwise_cons]
  refine ⟨fun q hq g hg hg' => ?_, fun q hq => h.1 q (List.mem_cons_of_mem _ hq), h.2.2⟩
  rcases List.mem_cons.1 hq with rfl | hq
  · exact h.1 r' List.mem_cons_self g hg' hg
  · exact h.2.1 q hq g hg hg'
/-- any row to the front -/
theorem Held.front {W0 w : World} {L L' : List Row} (H : Held W0 w L) (p : L.Perm L') : Held W0 w L' := by
  refine ⟨H.bel, fun q hq => H.own q (p.mem_iff.2 hq), ?_⟩
  refine (p.pairwise_iff fun {r r'} h g hg hg' => ?_).1 H.apart
  exact h g hg' hg
theorem Held.fresh {W0 w1 w' : World} {v : Value} {e sz n : Nat} {cs : List Value} (ho : w'.ownsRow w1.heap.size e sz v n cs) (h1 : ∃ x, w1 = Proofs.Ytchcepihmphdmaa.ext W0 x) (h2 : ∃ x, w' = Proofs.Ytchcepihmphdmaa.ext w1 x) : Held W0 w' [⟨v, e, sz, n, cs⟩] :=
  ((Held.start W0).to h1).push (bel_of_ext h2) ho
theorem Held.append {W0 w w' : World} {L : List Row} {r : Row} {v' : Value} {n' : Nat} {cs' : List Value} (H : Held W0 w (r :: L)) (hg : w.grownBy w' r.v.ownBlock) (ho : w'.ownsRow W0.heap.size r.e r.sz v' n' cs')
    (hat : v'.ownBlock = r.v.ownBlock ∨ v'.ownBlock = some w.heap.size ∨ v'.ownBlock = none) : Held W0 w' (⟨v', r.e, r.sz, n', cs'⟩ :: L) := by
  have hr0 := H.own r List.mem_cons_self
  refine ⟨H.bel.grown hg H.le (fun k hk => (hr0.lt k hk).1), fun r' hr' => ?_, List.Pairwise.cons (fun r' hr' g hg1 hg2 => ?_) H.apart.of_cons⟩
  · rcases List.mem_cons.1 hr' with rfl | hr'
    · exact ho
    · refine (H.own r' (List.mem_cons_of_mem _ hr')).kept hg ?_
      cases hb : r'.v.ownBlock with
      | none => exact .inl rfl
      | some g =>
        refine .inr fun e => ?_
        exact (List.pairwise_cons.1 H.apart).1 r' hr' g e.symm hb
  · have h1 := ((H.own r' (List.mem_cons_of_mem _ hr')).lt g hg2).2
    simp only at hg1
    rcases hat with h | h | h
    · exact (List.pairwise_cons.1 H.apart).1 r' hr' g (by rw [← h]; exact hg1) hg2
    · rw [h] at hg1; cases hg1; omega
    · rw [h] at hg1; cases hg1
/-- rows that a callee has made -/
theorem Held.join {W0 w w' : World} {L L' : List Row} (H : Held W0 w L) (K : Held w w' L') : Held W0 w' (L' ++ L) := by
  have H' := H.grow K.bel
  refine ⟨H'.bel, fun r hr => ?_, List.pairwise_append.2 ⟨K.apart, H'.apart, fun r hr r' hr' g hg hg' => ?_⟩⟩
  · rcases List.mem_append.1 hr with hr | hr
    · exact own_base (K.own r hr) H.le
    · exact H'.own r hr
  · have h1 := ((K.own r hr).lt g hg).1
    have h2 := ((H.own r' hr').lt g hg').2
    omega
/-- an empty slice that was made -/
theorem Held.empty {W0 w : World} {L : List Row} (H : Held W0 w L) (e sz : Nat) : Held W0 (w.alloc (.cells #[] e)) (⟨.slice (some ⟨w.heap.size, 0, none⟩) 0 0, e, sz, 0, []⟩ :: L) :=
  H.push ((Below.refl _ _).alloc (Nat.le_refl _) _) (World.ownsRow_made w #[] 0 (Nat.le_refl _) (by simp [maxLen]) (by simp))
theorem perm_pull {α : Type} {r : α} : ∀ (L : List α) (i : Nat), L[i]? = some r → L.Perm (r :: L.eraseIdx i)
  | [], i, h => by simp at h
  | x :: L, 0, h => by
    have : x = r := by simpa using h
    subst this
    exact List.Perm.refl _
  | x :: L, i + 1, h => by
    have := perm_pull L i (by simpa using h)
    exact (List.Perm.cons x this).trans (List.Perm.swap _ _ _)
/-- row i to the front -/
theorem Held.pull {W0 w : World} {L : List Row} {r : Row} (H : Held W0 w L) (i : Nat) (h : L[i]? = some r) : Held W0 w (r :: L.eraseIdx i) := H.front (perm_pull L i h)
/-- what append and make ask of a slice type t with elements of type e -/
structure Elem (P : Program) (t e size bytes : Nat) (z : Value) : Prop where
  ut : P.underlying t = some (.slice e)
  info : (P.info? e).map (fun i => (i.zero, i.size, i.bytes)) = some (some z, size, bytes)
  zs : z.cells.size = size
  pos : 0 < size
/-! ### append -/
theorem run_append_sl {P : Program} (w : World) (base : Nat) (t ty e : TypeId) (z : Value) (size bytes : Nat) (E : Elem P t e size bytes z) (v u : Value) (n m : Nat) (xs news : List Value) (hown : w.ownsRow base e size v n xs) (hsl : Sl w size u m news) (h1 : ∀ u ∈ news, u.oneCell' = true)
    (h63 : n + m ≤ maxLen) (hbytes : (n + m) * bytes ≤ 140737488355328) (hbase : base ≤ w.heap.size) :
    ∃ v' w', (Builtin.append_ #[t, t] ty #[v, u]).run P w = .ok v' w' ∧ w'.ownsRow base e size v' (n + m) (xs ++ news) ∧ w.grownBy w' v.ownBlock ∧ (v'.ownBlock = v.ownBlock ∨ v'.ownBlock = some w.heap.size ∨ v'.ownBlock = none) := by
  obtain ⟨i, hi, hz, hsize, hby⟩ := info_parts E.info
  have ht := E.ut
  obtain ⟨a, b, o, cap, rfl, s1, s2, s3, s4, s5⟩ := hsl
  rcases Nat.eq_zero_or_pos m with rfl | hm
  · have hnews : news = [] := List.eq_nil_of_length_eq_zero (by simpa using s3)
    subst hnews
    have hr : (Builtin.append_ #[t, t] ty #[v, .slice a 0 cap]).run P w = .ok v w := by
      have e0 : (Builtin.firstCells size 0 (.slice a 0 cap)).run P w = .ok #[] w := by
        cases a <;> simp [Builtin.firstCells, loadCells, loadCellsFrom]
      rcases hown.2 with ⟨rfl, rfl⟩ | ⟨g, cap', cur, rfl, _, _, hnc, _⟩
      · simp [Builtin.append_, run_underlying ht, sizeOf, typeInfo, hi, Builtin.lenOf, hsize, e0]
      · simp [Builtin.append_, run_underlying ht, sizeOf, typeInfo, hi, Builtin.lenOf, hsize, e0, hnc, storeCells]
    exact ⟨v, w, hr, by simpa using hown, World.grownBy.refl _ _, .inl rfl⟩
  · obtain ⟨rfl, hb⟩ := s4 hm
    obtain ⟨g, cap', w', h2, h3, h4, h5, _⟩ := run_append_lies (P := P) w t ty base e i z size bytes ht hi hz hsize hby E.zs E.pos v n xs hown ⟨b, o, none⟩ m cap news s3 (fun j u hu => by
      have hj := (List.getElem?_eq_some_iff.1 hu).1
      rw [Go.WideShapes.add_plain, s5 j hj, hu]) h1 hm h63 hbytes hbase w.heap.size rfl
    refine ⟨_, w', h2, h3, h4, ?_⟩
    rcases h5 with h5 | h5
    · exact .inl h5.symm
    · exact .inr (.inl (by rw [h5]; rfl))
theorem wpList_append_held {P : Program} {W0 : World} {w : World} {L : List Row} {ops : Array Oper} {rest : List Oper} {o : Oper} {a : Act} {Q : Exit → Act → World → Prop} (hgd : o.guard = none) (s x : Operand) (t : TypeId)
    (ho : o.op = .call { callee := .builtin .append, args := #[s, x], argTypes := #[t, t] })
    {e size bytes : Nat} {z : Value} (E : Elem P t e size bytes z) {v u : Value} {n m : Nat} {xs news : List Value} (H : Held W0 w (⟨v, e, size, n, xs⟩ :: L)) (hs : a.eval s = v) (hx : a.eval x = u) (hsl : Sl w size u m news) (h1 : ∀ u ∈ news, u.oneCell' = true)
    (h63 : n + m ≤ maxLen) (hbytes : (n + m) * bytes ≤ 140737488355328)
    (h : ∀ v' w', Held W0 w' (⟨v', e, size, n + m, xs ++ news⟩ :: L) → wpList P ops Q rest (a.put o.dst v') w') : wpList P ops Q (o :: rest) a w := by
  refine wpList_plain hgd fun K hK => ?_
  obtain ⟨v', w', hr, h2, h3, h4⟩ := run_append_sl (P := P) w W0.heap.size t o.type e z size bytes E v u n m xs news (H.own _ List.mem_cons_self) hsl h1 h63 hbytes H.le
  unfold Oper.wp execOp
  simp only [ho, resolve, invoke, builtin, Sem.run_bind, Sem.run_pure, Result.andThen_ok, List.map_toArray, List.map_cons, List.map_nil, hs, hx, hr]
  exact hK _ _ (h v' w' (H.append h3 h2 h4))
theorem wpList_make_held {P : Program} {W0 : World} {w : World} {L : List Row} {ops : Array Oper} {rest : List Oper} {o : Oper} {a : Act} {Q : Exit → Act → World → Prop}
    (hg : o.guard = none) (l c : Operand) (t : TypeId) (hop : o.op = Op.makeSlice t l c) {e size bytes : Nat} {z : Value} (E : Elem P t e size bytes z) (H : Held W0 w L)
    (kl kc : IntKind) (N C : Int) (n : Nat) (hl : a.eval l = .int kl N) (hc : a.eval c = .int kc C) (hL : N = (n : Int)) (hC : C = (n : Int)) (b2 : bytes * n ≤ 281474976710656) (b3 : n ≤ maxLen)
    (hK : ∀ w', Held W0 w' (⟨.slice (some ⟨w.heap.size, 0, none⟩) n n, e, size, n, (madeCells z.cells (n * size)).toList⟩ :: L) → wpList P ops Q rest (a.put o.dst (.slice (some ⟨w.heap.size, 0, none⟩) n n)) w') :
    wpList P ops Q (o :: rest) a w := by
  obtain ⟨i, hi, hz, hsize, hby⟩ := info_parts E.info
  refine wpList_make_full w hg l c t hop w.heap.size e i z size E.ut hi hz hsize kl kc N C n hl hc hL hC (by rw [hby]; exact b2) b3 (Nat.le_refl _) fun w' h1 h2 => hK w' (H.push ((Below.refl _ _).grown h2 (Nat.le_refl _) (fun k hk => by cases hk)) h1)
theorem Sl_new1 (w : World) (u : Value) (t : TypeId) : Sl (w.alloc (.cells #[u] t)) 1 (.slice (some ⟨w.heap.size, 0, none⟩) 1 1) 1 [u] := by
  refine ⟨_, w.heap.size, 0, 1, rfl, Nat.le_refl _, by simp [maxLen], rfl, fun _ => ⟨rfl, by simp⟩, fun i hi => ?_⟩
  rw [Nat.zero_add, World.cell?_alloc_at _ _ _ _ rfl]
  simp
/-- a new block of cells, read as a slice -/
theorem Sl_new (w : World) (cs : Array Value) (t : TypeId) (sz n : Nat) (h : cs.size = n * sz) (hn : n ≤ maxLen) (hsz : 0 < sz) : Sl (w.alloc (.cells cs t)) sz (.slice (some ⟨w.heap.size, 0, none⟩) n n) n cs.toList := by
  refine ⟨_, w.heap.size, 0, n, rfl, Nat.le_refl _, hn, by simpa using h, fun _ => ⟨rfl, by simp⟩, fun i hi => ?_⟩
  rw [Nat.zero_add, World.cell?_alloc_at _ _ _ _ rfl]
  simp
end
section
open Go.ChangeShapes Go.WideShapes Go.ChangeAt Go.RowKit
theorem infoInt : (Try.prog.info? 3).map (fun i => i.size) = some 1 := by kernel_rfl
theorem infoInt3 : (Try.prog.info? 3).map (fun i => (i.zero, i.size, i.bytes)) = some (some (.int .i64 0), 1, 8) := by kernel_rfl
theorem IntsAt.opn {w : World} {v : Value} {xs : List Int} (h : IntsAt w v xs) :
    ∃ a b o cap, v = .slice a xs.length cap ∧ xs.length ≤ cap ∧ xs.length ≤ 9223372036854775807 ∧ cap ≤ 9223372036854775807 ∧ ∀ k, k < xs.length → Old w b ∧ (∀ w', (Instr.indexAt 22 (.slice a xs.length cap) (.int .i64 k)).run Try.prog w' = .ok (.pointer (some ⟨b, o + k, none⟩)) w') ∧
      w.cell? ⟨b, o + k, none⟩ = some (.int .i64 (nth xs k)) := by
  obtain ⟨a, b, o, cap, rfl, h1, h2, h3, h4⟩ := Sl.idx h Try.underlying22 infoInt
  refine ⟨a, b, o, cap, rfl, h1, h2, h3, fun k hk => ?_⟩
  obtain ⟨g1, g2, g3⟩ := h4 k hk
  refine ⟨g1, fun w' => by have := g2 w'; rwa [Nat.mul_one] at this, ?_⟩
  have := g3 0 (by omega)
  rw [Nat.mul_one, Nat.add_zero, Nat.add_zero] at this
  rw [this, getElem_of_nth hk]
theorem slice_to (a : Option Addr) (n cap k : Nat) (h : k ≤ cap) (w : World) :
    (Instr.slice 22 (.slice a n cap) none (some (.int .i64 k)) none).run Try.prog w = .ok (.slice a k cap) w := by
  obtain ⟨i, h1, h2⟩ := Option.map_eq_some_iff.1 infoInt
  have e : (fun x : Addr => x.add 0) = id := by funext x; simp [Addr.add]
  simp [Instr.slice, run_underlying Try.underlying22, Instr.sliceBounds, Instr.sliceBound, asIntOf, h, sizeOf, typeInfo, h1, e]
theorem IntsAt.take {w : World} {a : Option Addr} {n cap : Nat} {l : List Int} (h : IntsAt w (.slice a n cap) l) {k : Nat} (hk : k ≤ l.length) : IntsAt w (.slice a k cap) (l.take k) := by
  obtain ⟨a', b, o, cap', e, h1, h2, h3, h4, h5⟩ := h
  simp only [Value.slice.injEq] at e
  obtain ⟨rfl, rfl, rfl⟩ := e
  have hl : (l.take k).length = k := by simp; omega
  refine ⟨a, b, o, cap, by rw [hl], by omega, h2, by simp, fun hn => h4 (by omega), fun i hi => ?_⟩
  have hi' : i < k := by simp at hi; omega
  rw [h5 i (by simp; omega), List.map_take, List.getElem?_take, if_pos hi']
theorem nth_take {l : List Int} {k i : Nat} (h : i < k) : nth (l.take k) i = nth l i := by simp [nth, List.getD, h]
end
section
open Go.ChangeShapes Go.WideShapes Go.ChangeAt Go.RowKit
/-- the call's own row: a fresh slice -/
abbrev OwnI (w : World) (B : Nat) (v : Value) (xs : List Int) : Prop := w.ownsRow B 3 1 v xs.length (xs.map iv)
theorem IntsAt_own {w : World} {B : Nat} {v : Value} {xs : List Int} (h : OwnI w B v xs) : IntsAt w v xs := Sl_own h
theorem OwnI.ext {w : World} {B : Nat} {v : Value} {xs : List Int} (h : OwnI w B v xs) (x : Ext) : OwnI (ext w x) B v xs := by
  refine ⟨h.1, ?_⟩
  rcases h.2 with h2 | ⟨g, cap, cur, h1, h2, h3, h4⟩
  · exact .inl h2
  · exact .inr ⟨g, cap, cur, h1, h2, by rw [heap_ext w x (Array.getElem?_eq_some_iff.1 h3).1]; exact h3, h4⟩
/-- k elements written, the rest noughts -/
def part (xs : List Int) (k : Nat) : List Value := (xs.take k).map iv ++ List.replicate (xs.length - k) (iv 0)
theorem part_zero (xs : List Int) : part xs 0 = List.replicate xs.length (iv 0) := by simp [part]
theorem part_all (xs : List Int) : part xs xs.length = xs.map iv := by simp [part]
theorem part_step (xs : List Int) (k : Nat) (h : k < xs.length) : (part xs k).set k (iv (nth xs k)) = part xs (k + 1) := by
  apply List.ext_getElem?
  intro i
  simp only [part, List.getElem?_set, List.getElem?_append, List.getElem?_map, List.getElem?_take, List.length_map, List.length_take, List.length_append, List.length_replicate, List.getElem?_replicate]
  by_cases hi : k = i
  · subst hi
    simp [h, nth, show k < min (k + 1) xs.length by omega, show k < min k xs.length + (xs.length - k) by omega]
  · simp only [hi, if_false]
    by_cases h2 : i < k
    · simp [show i < min k xs.length by omega, show i < min (k + 1) xs.length by omega, h2, show i < k + 1 by omega]
    · simp only [show ¬ i < min k xs.length by omega, show ¬ i < min (k + 1) xs.length by omega, if_false]
      by_cases h3 : i < xs.length
      · rw [if_pos (by omega), if_pos (by omega)]
      · rw [if_neg (by omega), if_neg (by omega)]
theorem part_length (xs : List Int) (k : Nat) (h : k ≤ xs.length) : (part xs k).length = xs.length := by simp [part]; omega
theorem part_cell (xs : List Int) (k : Nat) (h : k < xs.length) : ∃ u, (part xs k)[k]? = some u := by
  have := part_length xs k (by omega)
  exact ⟨(part xs k)[k], by simp [this, h]⟩
theorem madeOne (z : Value) (n : Nat) : (madeCells #[z] n).toList = List.replicate n z := by
  apply List.ext_getElem?
  intro i
  by_cases h : i < n <;> simp [madeCells, h, Nat.mod_one]
theorem toIntS_any (xs : List Int) (v : Value) (w : World) (h : IntsAt w v xs) (hs : xs.length ≤ 1099511627776) :
    Calls Try.prog 44 #[v] w fun e w' => ∃ v', e = .returned v' ∧ (∃ x, w' = ext w x) ∧ OwnI w' w.heap.size v' xs := by
  obtain ⟨a, b, o, cap, rfl, hc1, hc2, hc3, hcell⟩ := h.opn
  obtain ⟨i0, hi, hz0, hz1, hz2⟩ := info_parts infoInt3
  have HZ2 := Lib.hid hz2
  have HZ1 := Lib.hid hz1
  have HZ0 := Lib.hid hz0
  have HI := Lib.hid hi
  clear hz0 hz1 hz2 hi
  go_enter Try.func44, Try.ntmps44
  go_wp2_with (first | (at_make; refine wpList_make_full _ rfl _ _ 22 rfl w.heap.size 3 i0 (.int .i64 0) 1 Try.underlying22 HI.out HZ0.out HZ1.out .i64 .i64 _ _ xs.length rfl rfl rfl rfl (by rw [HZ2.out]; omega) (by unfold maxLen; omega) (Nat.le_refl _) ?_; intro w1 hown hgrow))
  have hz : (madeCells (Value.int .i64 0).cells (xs.length * 1)).toList = part xs 0 := by rw [part_zero, Nat.mul_one]; exact madeOne _ _
  rw [hz] at hown
  have hbel : Below w.heap.size w w1 := (Below.refl _ _).grown hgrow (Nat.le_refl _) (fun k hk => by cases hk)
  clear hz hgrow
  go_loopw [4] (fun i wr => ∃ k : Nat, k ≤ xs.length ∧ i = .int .i64 k ∧ wr.ownsRow w.heap.size 3 1 (.slice (some ⟨w.heap.size, 0, none⟩) xs.length xs.length) xs.length (part xs k) ∧ Below w.heap.size w wr) (fun i _ => xs.length - (intOf i).toNat)
  case atStart => exact ⟨0, Nat.zero_le _, rfl, hown, hbel⟩
  case round =>
    clear hown hbel
    obtain ⟨k, hk, rfl, hown, hbel⟩ := hrel
    by_cases hlt : k < xs.length
    · obtain ⟨hb, hi, hck⟩ := hcell k hlt
      clear hcell
      have hck2 : wr.cell? ⟨b, o + k, none⟩ = some (.int .i64 (nth xs k)) := by rw [hbel.cell (p := ⟨b, o + k, none⟩) hb.lt]; exact hck
      obtain ⟨u, hu⟩ := part_cell xs k hlt
      have hc0 : wr.cell? ⟨w.heap.size, k, none⟩ = some u := by rw [hown.cellAt k (by omega), hu]
      have hf0 : wr.frozen? ⟨w.heap.size, k, none⟩ = false := hown.frozenAt k
      have hst := hown.stored k (iv (nth xs k))
      rw [part_step xs k hlt] at hst
      have HST := Lib.hid hst
      have HOW := Lib.hid hown
      clear hst hown hu
      go_wp2_with fail
      go_roundw
      case rel => exact ⟨k + 1, hlt, int_succ k, HST.out.1, hbel.setCell (Nat.le_refl _) _⟩
      case measure => simp [intOf]; omega
    · go_wp2_with fail
      go_ret
      obtain rfl : k = xs.length := by omega
      rw [part_all] at hown
      obtain ⟨x, rfl⟩ := ext_of hbel
      exact ⟨_, rfl, ⟨x, rfl⟩, hown⟩
def eqInts (a b : List Int) : Bool := decide (a.length = b.length) && allTo (fun k => nth a k == nth b k) a.length
theorem eqInts_self (a : List Int) : eqInts a a = true := by simp [eqInts, allTo_true]
theorem eqInts_eq {a b : List Int} (h : eqInts a b = true) : a = b := by
  simp [eqInts, allTo_true, nth] at h
  apply List.ext_getElem h.1
  intro i h1 h2
  have := h.2 i h1
  simpa [h1, h2] using this
theorem eqIntS_any (xs ys : List Int) (v u : Value) (w : World) (h : IntsAt w v xs) (h' : IntsAt w u ys) :
    Calls Try.prog 51 #[v, u] w fun e w' => e = .returned (.bool (eqInts xs ys)) ∧ ∃ x, w' = ext w x := by
  obtain ⟨a, b, o, cap, rfl, hc1, hc2, hc3, hcell⟩ := h.opn
  obtain ⟨a', b', o', cap', rfl, hc1', hc2', hc3', hcell'⟩ := h'.opn
  by_cases hl : xs.length = ys.length
  · have hne : ((xs.length : Int) != ys.length) = false := by simp [hl]
    have HL := Lib.hid hl
    have hle : xs.length ≤ ys.length := by omega
    clear hl
    go_enter Try.func51, Try.ntmps51
    go_wp2_with fail
    go_loopw [5] (fun i wr => ∃ k : Nat, k ≤ xs.length ∧ i = .int .i64 k ∧ allTo (fun k => nth xs k == nth ys k) k = true ∧ ∃ x, wr = ext w x) (fun i _ => xs.length - (intOf i).toNat)
    case atStart => exact ⟨0, Nat.zero_le _, rfl, rfl, (by repeat (first | exact ext_refl _ | (with_reducible assumption) | refine ext_ext' ?_ _ | refine ext_alloc' ?_ _ | refine ext_drew' ?_))⟩
    case round =>
      obtain ⟨k, hk, rfl, hall, x, rfl⟩ := hrel
      have HA := Lib.hid hall
      clear hall
      by_cases hlt : k < xs.length
      · obtain ⟨hb, hi, hck⟩ := hcell k hlt
        obtain ⟨hb', hi', hck'⟩ := hcell' k (by omega)
        clear hcell hcell'
        cases hq : nth xs k == nth ys k
        all_goals
          have hq' : (nth xs k != nth ys k) = !(nth xs k == nth ys k) := rfl
          rw [hq] at hq'
          go_wp2_with fail
          refine wp_region_ext_lit (by kernel_rfl) (by kernel_rfl) ?_
          repeat (go_big_quiet_step (fail))
          refine wpQuiet_nil ?_
          intro _ hwq
          obtain ⟨xq, hwq⟩ := hwq
          subst hwq
          go_wp2_with fail
        · go_ret
          exact ⟨ret_bool (by simp only [eqInts, allTo_false (p := fun k => nth xs k == nth ys k) hlt hq, Bool.and_false]), (by repeat (first | exact ext_refl _ | (with_reducible assumption) | refine ext_ext' ?_ _ | refine ext_alloc' ?_ _ | refine ext_drew' ?_))⟩
        · go_roundw
          case rel => exact ⟨k + 1, hlt, int_succ k, allTo_succ HA.out hq, (by repeat (first | exact ext_refl _ | (with_reducible assumption) | refine ext_ext' ?_ _ | refine ext_alloc' ?_ _ | refine ext_drew' ?_))⟩
          case measure => simp [intOf]; omega
      · go_wp2_with fail
        go_ret
        obtain rfl : k = xs.length := by omega
        exact ⟨ret_bool (by rw [eqInts, HA.out, decide_eq_true HL.out]; rfl), (by repeat (first | exact ext_refl _ | (with_reducible assumption) | refine ext_ext' ?_ _ | refine ext_alloc' ?_ _ | refine ext_drew' ?_))⟩
  · have hne : ((xs.length : Int) != ys.length) = true := by simp; omega
    have HL := Lib.hid hl
    clear hl
    go_enter Try.func51, Try.ntmps51
    go_wp2_with fail
    go_ret
    exact ⟨ret_bool (by simp [eqInts, HL.out]), (by repeat (first | exact ext_refl _ | (with_reducible assumption) | refine ext_ext' ?_ _ | refine ext_alloc' ?_ _ | refine ext_drew' ?_))⟩
end
section
open Go.ChangeShapes Go.WideShapes Go.ChangeAt Go.RowKit
def marks (k : Int) (n : Nat) : List Int := (List.range n).map fun i : Nat => k + (i : Int)
theorem marks_len (k : Int) (n : Nat) : (marks k n).length = n := by simp [marks]
theorem marks_nth (k : Int) (n i : Nat) (h : i < n) : nth (marks k n) i = k + i := by simp [marks, nth, List.getD, h]
/-- j elements marked -/
def marked (xs : List Int) (k : Int) (j : Nat) : List Value := (marks k j).map iv ++ (xs.drop j).map iv
theorem marked_zero (xs : List Int) (k : Int) : marked xs k 0 = xs.map iv := by simp [marked, marks]
theorem marked_all (xs : List Int) (k : Int) : marked xs k xs.length = (marks k xs.length).map iv := by simp [marked]
theorem marked_step (xs : List Int) (k : Int) (j : Nat) (h : j < xs.length) : (marked xs k j).set j (iv (k + j)) = marked xs k (j + 1) := by
  have e1 : ((marks k j).map iv).length = j := by simp [marks]
  have e2 : (marks k (j + 1)) = marks k j ++ [k + (j : Int)] := by simp [marks, List.range_succ]
  have e3 : xs.drop j = xs[j] :: xs.drop (j + 1) := List.drop_eq_getElem_cons h
  have e4 : (xs.drop j).map iv = iv xs[j] :: (xs.drop (j + 1)).map iv := by rw [e3]; rfl
  rw [marked, marked, e2, e4, List.set_append_right _ _ (by omega), e1, Nat.sub_self, List.set_cons_zero, List.map_append, List.append_assoc]
  rfl
theorem marked_cell (xs : List Int) (k : Int) (j : Nat) (h : j < xs.length) : ∃ u, (marked xs k j)[j]? = some u := by
  have : j < (marked xs k j).length := by simp [marked, marks]; omega
  exact ⟨_, List.getElem?_eq_getElem this⟩
theorem grown_trans {a b c : World} {row : Option Nat} (h : a.grownBy b row) (k : b.grownBy c row) : a.grownBy c row :=
  ⟨k.os.trans h.os, k.tape.trans h.tape, k.output.trans h.output, Nat.le_trans h.size k.size, fun i hi hne => (k.block i (Nat.lt_of_lt_of_le hi h.size) hne).trans (h.block i hi hne)⟩
theorem markIntS_any (xs : List Int) (v : Value) (k : Int) (B : Nat) (w : World) (ho : OwnI w B v xs) (h0 : 0 ≤ k) (h1 : k ≤ 1099511627776) (hs : xs.length ≤ 1099511627776) :
    Calls Try.prog 52 #[v, .int .i64 k] w fun e w' => e = .returned (.int .i64 (k + xs.length)) ∧ w.grownBy w' v.ownBlock ∧ OwnI w' B v (marks k xs.length) := by
  have hlen : (marks k xs.length).length = xs.length := marks_len k _
  rcases ho.2 with ⟨rfl, hn⟩ | ⟨g, cap, cur, rfl, hB, hg, hnc, hcm, hcs, htk⟩
  · have hx : xs = [] := List.eq_nil_of_length_eq_zero hn
    subst hx
    go_enter Try.func52, Try.ntmps52
    go_wp2_with fail
    go_loop [1, 5] (fun kk i => i = .int .i64 0 ∧ kk = .int .i64 k) (fun _ _ => 0)
    case atStart => exact ⟨rfl, rfl⟩
    case round =>
      obtain ⟨rfl, rfl⟩ := hrel
      go_wp2_with fail
      go_ret
      exact ⟨ret_int (by simp), World.grownBy.refl _ _, by simpa [marks] using ho⟩
  · have HO := Lib.hid ho
    have hz := marked_zero xs k
    have hB' : Old w g := ⟨(Array.getElem?_eq_some_iff.1 hg).1⟩
    unfold maxLen at hcm
    clear hcs htk hg ho
    go_enter Try.func52, Try.ntmps52
    go_wp2_with fail
    go_loopw [1, 5] (fun kk i wr => ∃ j : Nat, j ≤ xs.length ∧ i = .int .i64 j ∧ kk = .int .i64 (k + j) ∧ wr.ownsRow B 3 1 (.slice (some ⟨g, 0, none⟩) xs.length cap) xs.length (marked xs k j) ∧ w.grownBy wr (some g)) (fun _ i _ => xs.length - (intOf i).toNat)
    case atStart => exact ⟨0, Nat.zero_le _, rfl, by simp, by rw [hz]; exact HO.out, World.grownBy.refl _ _⟩
    case round =>
      clear hz
      obtain ⟨j, hj, rfl, rfl, hown, hgr⟩ := hrel
      by_cases hlt : j < xs.length
      · obtain ⟨u, hu⟩ := marked_cell xs k j hlt
        have hc0 : wr.cell? ⟨g, j, none⟩ = some u := by rw [hown.cellAt j (by omega), hu]
        have hf0 : wr.frozen? ⟨g, j, none⟩ = false := hown.frozenAt j
        have hst := hown.stored j (iv (k + j))
        rw [marked_step xs k j hlt] at hst
        have HST := Lib.hid hst
        have HG := Lib.hid hgr
        clear hst hown hu hgr
        go_wp2_with fail
        go_roundw
        case rel => exact ⟨j + 1, hlt, int_succ j, by congr 1; omega, HST.out.1, grown_trans HG.out HST.out.2⟩
        case measure => simp [intOf]; omega
      · obtain rfl : j = xs.length := by omega
        rw [marked_all] at hown
        go_wp2_with fail
        go_ret
        exact ⟨rfl, hgr, by rw [OwnI, hlen]; exact hown⟩
theorem heldIntS_any (n : Nat) (v : Value) (k : Int) (w : World) (h : IntsAt w v (marks k n)) (h0 : 0 ≤ k) (h1 : k ≤ 1099511627776) (hs : n ≤ 1099511627776) :
    Calls Try.prog 53 #[v, .int .i64 k] w fun e w' => e = .returned (.int .i64 (k + n)) ∧ ∃ x, w' = ext w x := by
  obtain ⟨a, b, o, cap, rfl, hc1, hc2, hc3, hcell⟩ := h.opn
  have hlen : (marks k n).length = n := marks_len k _
  rw [hlen] at hc1 hc2 hcell h ⊢
  have HC := Lib.hid hcell
  clear hlen hcell
  go_enter Try.func53, Try.ntmps53
  go_wp2_with fail
  go_loopw [1, 5] (fun kk i wr => ∃ j : Nat, j ≤ n ∧ i = .int .i64 j ∧ kk = .int .i64 (k + j) ∧ ∃ x, wr = ext w x) (fun _ i _ => n - (intOf i).toNat)
  case atStart => exact ⟨0, Nat.zero_le _, rfl, by simp, (by repeat (first | exact ext_refl _ | (with_reducible assumption) | refine ext_ext' ?_ _ | refine ext_alloc' ?_ _ | refine ext_drew' ?_))⟩
  case round =>
    obtain ⟨j, hj, rfl, rfl, x, rfl⟩ := hrel
    by_cases hlt : j < n
    · obtain ⟨hb, hi, hck⟩ := HC.out j hlt
      rw [marks_nth k n j hlt] at hck
      have hq : (k + (j : Int) != k + j) = false := by simp
      go_wp2_with fail
      go_roundw
      case rel => exact ⟨j + 1, hlt, int_succ j, by congr 1; omega, (by repeat (first | exact ext_refl _ | (with_reducible assumption) | refine ext_ext' ?_ _ | refine ext_alloc' ?_ _ | refine ext_drew' ?_))⟩
      case measure => simp [intOf]; omega
    · obtain rfl : j = n := by omega
      go_wp2_with fail
      go_ret
      exact ⟨rfl, (by repeat (first | exact ext_refl _ | (with_reducible assumption) | refine ext_ext' ?_ _ | refine ext_alloc' ?_ _ | refine ext_drew' ?_))⟩
abbrev rowI (v : Value) (xs : List Int) : Row := ⟨v, 3, 1, xs.length, xs.map iv⟩
theorem elemInt : Elem Try.prog 22 3 1 8 (.int .i64 0) := ⟨Try.underlying22, infoInt3, rfl, by decide⟩
theorem Held.ints {W0 w : World} {L : List Row} (H : Held W0 w L) {v : Value} {xs : List Int} (h : rowI v xs ∈ L) : IntsAt w v xs := H.sl h
theorem Held.ints0 {W0 w : World} {L : List Row} {v : Value} {xs : List Int} (H : Held W0 w (rowI v xs :: L)) : IntsAt w v xs := H.sl List.mem_cons_self
theorem Held.oldI {W0 w : World} {L : List Row} (H : Held W0 w L) {v : Value} {xs : List Int} (h : IntsAt W0 v xs) : IntsAt w v xs := h.mono H.bel
theorem markIntS_held {W0 : World} {L : List Row} (xs : List Int) (v : Value) (k : Int) (w : World) (H : Held W0 w (rowI v xs :: L)) (h0 : 0 ≤ k) (h1 : k ≤ 1099511627776) (hs : xs.length ≤ 1099511627776) :
    Calls Try.prog 52 #[v, .int .i64 k] w fun e w' => e = .returned (.int .i64 (k + xs.length)) ∧ Held W0 w' (rowI v (marks k xs.length) :: L) :=
  (markIntS_any xs v k W0.heap.size w (H.own _ List.mem_cons_self) h0 h1 hs).mono fun e w' ⟨he, hg, ho⟩ => ⟨he, by
    have hl := marks_len k xs.length
    have := H.write (cs := (marks k xs.length).map iv) hg (by rw [OwnI, hl] at ho; exact ho)
    rw [rowI, hl]; exact this⟩
end
section
open Go.ChangeShapes Go.WideShapes Go.ChangeAt Go.RowKit
theorem Held.nilI {W0 w : World} {L : List Row} (H : Held W0 w L) : Held W0 w (⟨.slice none 0 0, 3, 1, 0, []⟩ :: L) := ⟨H.bel, (fun r hr => by
  rcases List.mem_cons.1 hr with rfl | hr
  · exact World.ownsRow_nil _ _ _ _
  · exact H.own r hr), List.Pairwise.cons (fun r hr g hg => by simp [Value.ownBlock] at hg) H.apart⟩
theorem one_lit (x : Int) : ∀ u ∈ [Value.int .i64 x], u.oneCell' = true := by intro u hu; simp at hu; subst hu; rfl
theorem Held.snoc {W0 w : World} {L : List Row} {v : Value} {xs : List Int} {x : Int} (H : Held W0 w (⟨v, 3, 1, xs.length + 1, xs.map iv ++ [.int .i64 x]⟩ :: L)) : Held W0 w (rowI v (xs ++ [x]) :: L) := by
  have e : (xs ++ [x]).map iv = xs.map iv ++ [.int .i64 x] := by simp [iv]
  rw [rowI, e, List.length_append]; exact H
theorem Held.first {W0 w : World} {L : List Row} {r : Row} (H : Held W0 w (r :: L)) : Held W0 w [r] := ⟨H.bel, fun q hq => by simp at hq; subst hq; exact H.own _ List.mem_cons_self, by simp⟩
theorem Held.rowV {W0 w : World} {L : List Row} {v : Value} {xs : List Int} (H : Held W0 w (rowI v xs :: L)) : ∃ a c, v = .slice a xs.length c := own_slice (H.own _ List.mem_cons_self)
theorem Held.base {W0 W1 w : World} {L : List Row} (hb : Below W0.heap.size W0 W1) (H : Held W1 w L) : Held W0 w L :=
  ⟨hb.trans (H.bel.mono hb.size), fun r hr => own_base (H.own r hr) hb.size, H.apart⟩
theorem Held.unbox {w wr : World} {o : Obj} {L : List Row} (H : Held (w.alloc o) wr L) : Held w wr L := H.base ((Below.refl _ _).alloc (Nat.le_refl _) _)
theorem Held.box2 {w wr : World} {u v : Value} {t : TypeId} {L : List Row} (H : Held (w.alloc (.cells #[u, v] t)) wr L) : wr.cell? ⟨w.heap.size, 0, none⟩ = some u ∧ wr.cell? ⟨w.heap.size, 1, none⟩ = some v := by
  have h := fun i => H.bel.cell (p := ⟨w.heap.size, i, none⟩) (by rw [World.size_alloc]; simp)
  exact ⟨by rw [h, World.cell?_alloc_at _ _ _ _ rfl]; rfl, by rw [h, World.cell?_alloc_at _ _ _ _ rfl]; rfl⟩
theorem Held.boxOld {w wr : World} {o : Obj} {L : List Row} (H : Held (w.alloc o) wr L) : Old wr w.heap.size := ⟨by have := H.bel.size; rw [World.size_alloc] at this; omega⟩
def IntsPost (w : World) (xs : List Int) (e : Ending) (w' : World) : Prop := ∃ v', e = .returned v' ∧ Held w w' [rowI v' xs]
theorem IntsPost.nil {w w' : World} {xs : List Int} (h : xs = []) (hx : ∃ x, w' = ext w x) : IntsPost w xs (.returned (.slice none 0 0)) w' := by
  subst h; exact ⟨_, rfl, (((Held.start w).to hx).nilI)⟩
theorem IntsPost.empty {w w' : World} {xs : List Int} {v : Value} {L : List Row} (h : xs = []) (H : Held w w' (⟨v, 3, 1, 0, []⟩ :: L)) : IntsPost w xs (.returned v) w' := by
  subst h; exact ⟨_, rfl, H.first⟩
theorem IntsPost.got {w w' : World} {xs ys : List Int} {v : Value} {L : List Row} (h : xs = ys) (H : Held w w' (rowI v ys :: L)) : IntsPost w xs (.returned v) w' := by
  subst h; exact ⟨_, rfl, H.first⟩
theorem takeI_held {W0 w w' : World} {L : List Row} {v : Value} {xs : List Int} (H : Held W0 w L) (hx : ∃ x, w' = ext w x) (K : OwnI w' w.heap.size v xs) : Held W0 w' (rowI v xs :: L) := H.push (bel_of_ext hx) K
theorem Held.take1 {W0 w w' : World} {L : List Row} {v : Value} {xs : List Int} (H : Held W0 w L) (K : Held w w' [rowI v xs]) : Held W0 w' (rowI v xs :: L) := H.join K
theorem wpList_make_any {P : Program} {W0 : World} {w : World} {L : List Row} {ops : Array Oper} {rest : List Oper} {o : Oper} {a : Act} {Q : Exit → Act → World → Prop}
    (hg : o.guard = none) (l c : Operand) (t : TypeId) (hop : o.op = Op.makeSlice t l c) {e size bytes : Nat} {z : Value} (E : Elem P t e size bytes z) (H : Held W0 w L)
    (kl kc : IntKind) (N C : Int) (n : Nat) (hl : a.eval l = .int kl N) (hc : a.eval c = .int kc C) (hL : N = (n : Int)) (hC : C = (n : Int)) (b2 : bytes * n ≤ 281474976710656) (b3 : n ≤ maxLen)
    (hK : ∀ g w', Held W0 w' (⟨.slice (some ⟨g, 0, none⟩) n n, e, size, n, (madeCells z.cells (n * size)).toList⟩ :: L) → wpList P ops Q rest (a.put o.dst (.slice (some ⟨g, 0, none⟩) n n)) w') :
    wpList P ops Q (o :: rest) a w := wpList_make_held hg l c t hop E H kl kc N C n hl hc hL hC b2 b3 (hK _)
theorem Held.oldRow {W0 w : World} {L : List Row} {g n cap : Nat} {xs : List Int} (H : Held W0 w (rowI (.slice (some ⟨g, 0, none⟩) n cap) xs :: L)) : Old w g := ⟨((H.own _ List.mem_cons_self).lt g rfl).2⟩
/-! ### a drawn region whose first operations only read what was there when the call began, and that then appends -/
theorem wp_region_heldB {P : Program} {W0 : World} {id : Nat} {Q : Exit → Act → World → Prop} {a : Act} {w : World} {ops : Array Oper} (_ : Below W0.heap.size W0 w) (hm : P.follows .mixedOrders = true)
    (h : wpAnyH P .any ops Q (fun w' => Below W0.heap.size W0 w') ops.size (Array.replicate ops.size false) a w.drew) : (Code.region id ops true).wp P Q a w :=
  wp_region_held hm h
theorem takeB {P : Program} {ops : Array Oper} {Q : Exit → Act → World → Prop} {W0 : World} {i : Nat} {oi : Oper} {v : Value} {fuel : Nat} {listed : Array Bool} {a : Act} {w : World} (hi : ops[i]? = some oi)
    (hs : Region.noSelect ops = true) (hf : Region.free .any ops listed i = true) (hr : (Region.ready .any ops listed).contains i = true)
    (hQ : ∀ c a w, Q (.panic c) (a.put oi.dst v) w → Q (.panic c) a w) (hw : Region.wanted oi (yielded ops a.tmps) = true) (hy : ∀ w', Below W0.heap.size W0 w' → (execOp a.eval oi).run P w' = .ok (.value v) w') (hS : Below W0.heap.size W0 w)
    (h : wpAnyH P .any ops Q (fun w' => Below W0.heap.size W0 w') fuel (listed.setIfInBounds i true) (a.put oi.dst v) w) : wpAnyH P .any ops Q (fun w' => Below W0.heap.size W0 w') (fuel + 1) listed a w :=
  wpAnyH_take hi hs hf hr hQ (.inl ⟨hw, hy⟩) hS h
theorem below_box2 {w wr : World} {u v : Value} {t : TypeId} (hb : Below (w.alloc (.cells #[u, v] t)).heap.size (w.alloc (.cells #[u, v] t)) wr) : wr.cell? ⟨w.heap.size, 0, none⟩ = some u ∧ wr.cell? ⟨w.heap.size, 1, none⟩ = some v :=
  Held.box2 (L := []) ⟨hb, (fun r h => by cases h), List.Pairwise.nil⟩
theorem opwp_append_held {P : Program} {W0 : World} {w : World} {L : List Row} {o : Oper} {a : Act} {K : Act → World → Prop} {Q : Exit → Act → World → Prop} (s x : Operand) (t : TypeId)
    (ho : o.op = .call { callee := .builtin .append, args := #[s, x], argTypes := #[t, t] })
    {e size bytes : Nat} {z : Value} (E : Elem P t e size bytes z) {v u : Value} {n m : Nat} {xs news : List Value} (H : Held W0 w (⟨v, e, size, n, xs⟩ :: L)) (hs : a.eval s = v) (hx : a.eval x = u) (hsl : Sl w size u m news) (h1 : ∀ u ∈ news, u.oneCell' = true)
    (h63 : n + m ≤ maxLen) (hbytes : (n + m) * bytes ≤ 140737488355328)
    (h : ∀ v' w', Held W0 w' (⟨v', e, size, n + m, xs ++ news⟩ :: L) → K (a.put o.dst v') w') : Oper.wp P o a w K Q := by
  obtain ⟨v', w', hr, h2, h3, h4⟩ := run_append_sl (P := P) w W0.heap.size t o.type e z size bytes E v u n m xs news (H.own _ List.mem_cons_self) hsl h1 h63 hbytes H.le
  unfold Oper.wp execOp
  simp only [ho, resolve, invoke, builtin, Sem.run_bind, Sem.run_pure, Result.andThen_ok, List.map_toArray, List.map_cons, List.map_nil, hs, hx, hr]
  exact h v' w' (H.append h3 h2 h4)
theorem Sl_newAt (w : World) (u : Value) (t : TypeId) (b : Nat) (h : w.heap.size = b) : Sl (w.alloc (.cells #[u] t)) 1 (.slice (some ⟨b, 0, none⟩) 1 1) 1 [u] := by subst h; exact Sl_new1 w u t
theorem opwp_make_any {P : Program} {W0 : World} {w : World} {L : List Row} {o : Oper} {a : Act} {K : Act → World → Prop} {Q : Exit → Act → World → Prop}
    (l c : Operand) (t : TypeId) (hop : o.op = Op.makeSlice t l c) {e size bytes : Nat} {z : Value} (E : Elem P t e size bytes z) (H : Held W0 w L)
    (kl kc : IntKind) (N C : Int) (n : Nat) (hl : a.eval l = .int kl N) (hc : a.eval c = .int kc C) (hL : N = (n : Int)) (hC : C = (n : Int)) (b2 : bytes * n ≤ 281474976710656) (b3 : n ≤ maxLen)
    (hK : ∀ g w', Held W0 w' (⟨.slice (some ⟨g, 0, none⟩) n n, e, size, n, (madeCells z.cells (n * size)).toList⟩ :: L) → w.grownBy w' none → K (a.put o.dst (.slice (some ⟨g, 0, none⟩) n n)) w') : Oper.wp P o a w K Q := by
  obtain ⟨i, hi, hz, hsize, hby⟩ := info_parts E.info
  obtain ⟨w', hrun, r1, r2⟩ := run_make_full (P := P) w w.heap.size t e i z size E.ut hi hz hsize kl kc n (by rw [hby]; exact b2) b3 (Nat.le_refl _)
  subst hL
  subst hC
  unfold Oper.wp
  simp [execOp, hop, hl, hc, hrun, Result.andThen]
  exact hK _ _ (H.push ((Below.refl _ _).grown r2 (Nat.le_refl _) (fun k hk => by cases hk)) r1) r2
theorem wp_region_heldS {P : Program} {S : World → Prop} {id : Nat} {Q : Exit → Act → World → Prop} {a : Act} {w : World} {ops : Array Oper} (hm : P.follows .mixedOrders = true)
    (h : wpAnyH P .any ops Q S ops.size (Array.replicate ops.size false) a w.drew) : (Code.region id ops true).wp P Q a w := wp_region_held hm h
theorem takeS {P : Program} {ops : Array Oper} {Q : Exit → Act → World → Prop} {S : World → Prop} {i : Nat} {oi : Oper} {v : Value} {fuel : Nat} {listed : Array Bool} {a : Act} {w : World} (hi : ops[i]? = some oi)
    (hs : Region.noSelect ops = true) (hf : Region.free .any ops listed i = true) (hr : (Region.ready .any ops listed).contains i = true)
    (hQ : ∀ c a w, Q (.panic c) (a.put oi.dst v) w → Q (.panic c) a w) (hw : Region.wanted oi (yielded ops a.tmps) = true) (hy : ∀ w', S w' → (execOp a.eval oi).run P w' = .ok (.value v) w') (hS : S w)
    (h : wpAnyH P .any ops Q S fuel (listed.setIfInBounds i true) (a.put oi.dst v) w) : wpAnyH P .any ops Q S (fuel + 1) listed a w :=
  wpAnyH_take hi hs hf hr hQ (.inl ⟨hw, hy⟩) hS h
end
section
open Go.ChangeShapes Go.WideShapes Go.ChangeAt Go.RowKit
/-- a box that holds one value, as a row of the call's own -/
abbrev boxR (b : Nat) (t : Nat) (u : Value) : Row := ⟨.slice (some ⟨b, 0, none⟩) 1 1, t, 1, 1, [u]⟩
theorem Held.newBox {W0 w : World} {L : List Row} (H : Held W0 w L) (t : Nat) (u : Value) : Held W0 (w.alloc (.cells #[u] t)) (boxR w.heap.size t u :: L) :=
  H.push ((Below.refl _ _).alloc (Nat.le_refl _) _) ⟨rfl, .inr ⟨w.heap.size, 1, #[u], rfl, Nat.le_refl _, heap_alloc_new w _, Nat.le_refl _, by simp [maxLen], rfl, rfl⟩⟩
theorem Held.box {W0 w : World} {L : List Row} {b t : Nat} {u : Value} (H : Held W0 w L) (h : boxR b t u ∈ L) : w.cell? ⟨b, 0, none⟩ = some u ∧ w.frozen? ⟨b, 0, none⟩ = false := by
  have ho := H.own _ h
  exact ⟨by rw [ho.cellAt 0 (by show 0 < 1 * 1; omega)]; rfl, ho.frozenAt 0⟩
theorem Held.boxO {W0 w : World} {L : List Row} {b t : Nat} {u : Value} (H : Held W0 w L) (h : boxR b t u ∈ L) : Old w b := ⟨((H.own _ h).lt b rfl).2⟩
theorem Held.setBox {W0 w : World} {L : List Row} {b t : Nat} {u : Value} (H : Held W0 w (boxR b t u :: L)) (u' : Value) : Held W0 (w.setCell ⟨b, 0, none⟩ u') (boxR b t u' :: L) := by
  have hst := (H.own _ List.mem_cons_self).stored 0 u'
  exact H.write hst.2 hst.1
end
section
open Go.ChangeShapes Go.WideShapes Go.ChangeAt Go.RowKit
abbrev boxR2 (b : Nat) (t : Nat) (u v : Value) : Row := ⟨.slice (some ⟨b, 0, none⟩) 1 1, t, 2, 1, [u, v]⟩
theorem Held.newBox2 {W0 w : World} {L : List Row} (H : Held W0 w L) (t : Nat) (u v : Value) : Held W0 (w.alloc (.cells #[u, v] t)) (boxR2 w.heap.size t u v :: L) :=
  H.push ((Below.refl _ _).alloc (Nat.le_refl _) _) ⟨rfl, .inr ⟨w.heap.size, 1, #[u, v], rfl, Nat.le_refl _, heap_alloc_new w _, Nat.le_refl _, by simp [maxLen], rfl, rfl⟩⟩
theorem Held.readBox2 {W0 w : World} {L : List Row} {b t : Nat} {u v : Value} (H : Held W0 w L) (h : boxR2 b t u v ∈ L) : w.cell? ⟨b, 0, none⟩ = some u ∧ w.cell? ⟨b, 1, none⟩ = some v ∧ w.frozen? ⟨b, 0, none⟩ = false ∧ w.frozen? ⟨b, 1, none⟩ = false ∧ Old w b := by
  have ho := H.own _ h
  exact ⟨by rw [ho.cellAt 0 (by show 0 < 1 * 2; omega)]; rfl, by rw [ho.cellAt 1 (by show 1 < 1 * 2; omega)]; rfl, ho.frozenAt 0, ho.frozenAt 1, ⟨(ho.lt b rfl).2⟩⟩
theorem Held.setBox2 {W0 w : World} {L : List Row} {b t : Nat} {u v : Value} (H : Held W0 w (boxR2 b t u v :: L)) (u' v' : Value) : Held W0 ((w.setCell ⟨b, 0, none⟩ u').setCell ⟨b, 1, none⟩ v') (boxR2 b t u' v' :: L) := by
  have hst := (H.own _ List.mem_cons_self).stored 0 u'
  have hst2 := hst.1.stored 1 v'
  exact (H.write hst.2 hst.1).write hst2.2 hst2.1
theorem Held.readB2 {W0 w : World} {L : List Row} {b t : Nat} {u v : Value} (H : Held W0 w L) (i : Nat) (h : L[i]? = some (boxR2 b t u v)) : w.cell? ⟨b, 0, none⟩ = some u ∧ w.cell? ⟨b, 1, none⟩ = some v ∧ w.frozen? ⟨b, 0, none⟩ = false ∧ w.frozen? ⟨b, 1, none⟩ = false ∧ Old w b := H.readBox2 (List.mem_of_getElem? h)
theorem Held.readB1 {W0 w : World} {L : List Row} {b t : Nat} {u : Value} (H : Held W0 w L) (i : Nat) (h : L[i]? = some (boxR b t u)) : w.cell? ⟨b, 0, none⟩ = some u ∧ w.frozen? ⟨b, 0, none⟩ = false ∧ Old w b :=
  ⟨(H.box (List.mem_of_getElem? h)).1, (H.box (List.mem_of_getElem? h)).2, H.boxO (List.mem_of_getElem? h)⟩
theorem Held.newBoxAt2 {W0 w : World} {L : List Row} (H : Held W0 w L) (t : Nat) (u v : Value) (b : Nat) (hb : w.heap.size = b) : Held W0 (w.alloc (.cells #[u, v] t)) (boxR2 b t u v :: L) := by subst hb; exact H.newBox2 t u v
theorem Held.newBoxAt {W0 w : World} {L : List Row} (H : Held W0 w L) (t : Nat) (u : Value) (b : Nat) (hb : w.heap.size = b) : Held W0 (w.alloc (.cells #[u] t)) (boxR b t u :: L) := by subst hb; exact H.newBox t u
theorem Held.setB2a {W0 w : World} {L : List Row} {b t : Nat} {u v : Value} (H : Held W0 w (boxR2 b t u v :: L)) (u' : Value) : Held W0 (w.setCell ⟨b, 0, none⟩ u') (boxR2 b t u' v :: L) := by
  have hst := (H.own _ List.mem_cons_self).stored 0 u'
  exact H.write hst.2 hst.1
theorem Held.setB2b {W0 w : World} {L : List Row} {b t : Nat} {u v : Value} (H : Held W0 w (boxR2 b t u v :: L)) (v' : Value) : Held W0 (w.setCell ⟨b, 1, none⟩ v') (boxR2 b t u v' :: L) := by
  have hst := (H.own _ List.mem_cons_self).stored 1 v'
  exact H.write hst.2 hst.1
end
section
open Go.ChangeShapes Go.WideShapes Go.ChangeAt Go.RowKit
def tab (n : Nat) (f : Nat → Int) : List Int := (List.range n).map f
theorem tab_len (n : Nat) (f : Nat → Int) : (tab n f).length = n := by simp [tab]
theorem tab_nth {n : Nat} (f : Nat → Int) {k : Nat} (h : k < n) : nth (tab n f) k = f k := by simp [tab, nth, List.getD, h]
theorem tab_congr {n : Nat} {f g : Nat → Int} (h : ∀ k, k < n → f k = g k) : tab n f = tab n g := List.map_congr_left fun k hk => h k (List.mem_range.1 hk)
def upd (f : Nat → Int) (k : Nat) (x : Int) : Nat → Int := fun i => if i = k then x else f i
theorem tab_set (n : Nat) (f : Nat → Int) (k : Nat) (x : Int) : (tab n f).set k x = tab n (upd f k x) := by
  apply List.ext_getElem?
  intro i
  by_cases h : i < n
  · by_cases e : k = i
    · subst e; simp [tab, upd, h]
    · rw [List.getElem?_set_ne e]; simp [tab, upd, h, Ne.symm e]
  · rw [List.getElem?_eq_none (by simp [tab]; omega), List.getElem?_eq_none (by simp [tab]; omega)]
theorem tab_zero (n : Nat) : List.replicate n (iv 0) = (tab n fun _ => 0).map iv := by
  simp [tab, List.map_const']
theorem tab_set_iv (n : Nat) (f : Nat → Int) (k : Nat) (x : Int) : ((tab n f).map iv).set k (iv x) = (tab n (upd f k x)).map iv := by rw [← List.map_set, tab_set]
theorem Held.cellO {W0 w : World} {L : List Row} (H : Held W0 w L) {b o : Nat} {v : Value} (hb : Old W0 b) (hc : W0.cell? ⟨b, o, none⟩ = some v) : w.cell? ⟨b, o, none⟩ = some v := by
  rw [H.bel.cell (p := ⟨b, o, none⟩) hb.lt]; exact hc
theorem Held.cellRow {W0 w : World} {L : List Row} {g cap n : Nat} {f : Nat → Int} (H : Held W0 w (rowI (.slice (some ⟨g, 0, none⟩) n cap) (tab n f) :: L)) {j : Nat} (hj : j < n) : w.cell? ⟨g, j, none⟩ = some (.int .i64 (f j)) ∧ w.frozen? ⟨g, j, none⟩ = false := by
  have ho := H.own _ List.mem_cons_self
  simp only [tab_len] at ho
  refine ⟨?_, ho.frozenAt j⟩
  rw [ho.cellAt j (by omega)]
  simp [tab, hj, iv]
theorem Held.storeRow {W0 w : World} {L : List Row} {g cap n : Nat} {f : Nat → Int} (H : Held W0 w (rowI (.slice (some ⟨g, 0, none⟩) n cap) (tab n f) :: L)) (j : Nat) (x : Int) : Held W0 (w.setCell ⟨g, j, none⟩ (.int .i64 x)) (rowI (.slice (some ⟨g, 0, none⟩) n cap) (tab n (upd f j x)) :: L) := by
  have H' : Held W0 w ((⟨.slice (some ⟨g, 0, none⟩) n cap, 3, 1, n, (tab n f).map iv⟩ : Row) :: L) := by
    simp only [rowI, tab_len] at H
    exact H
  have hst := (H'.own _ List.mem_cons_self).stored j (.int .i64 x)
  have h4 := H'.write hst.2 hst.1
  have e : ((tab n f).map iv).set j (.int .i64 x) = (tab n (upd f j x)).map iv := tab_set_iv n f j x
  rw [e] at h4
  rw [rowI, tab_len]
  exact h4
theorem Held.zeros {W0 w : World} {L : List Row} {g n : Nat} (H : Held W0 w (⟨.slice (some ⟨g, 0, none⟩) n n, 3, 1, n, (madeCells (Value.int .i64 0).cells (n * 1)).toList⟩ :: L)) : Held W0 w (rowI (.slice (some ⟨g, 0, none⟩) n n) (tab n fun _ => 0) :: L) := by
  have hz : (madeCells (Value.int .i64 0).cells (n * 1)).toList = (tab n fun _ => 0).map iv := by rw [Nat.mul_one]; exact (madeOne _ _).trans (tab_zero _)
  rw [hz] at H
  rw [rowI, tab_len]; exact H
theorem tab_nths (xs : List Int) : tab xs.length (nth xs) = xs := by
  apply List.ext_getElem
  · simp [tab]
  · intro i h1 h2
    simp [tab, nth, List.getD, h2]
abbrev rowT (g N : Nat) (f : Nat → Int) : Row := rowI (.slice (some ⟨g, 0, none⟩) N N) (tab N f)
end
section
open Go.ChangeShapes Go.WideShapes Go.ChangeAt Go.RowKit
def btw (n lo hi : Int) : Bool := decide (lo ≤ n) && decide (n ≤ hi)
theorem btw_iff {n lo hi : Int} : btw n lo hi = true ↔ lo ≤ n ∧ n ≤ hi := by simp [btw]
theorem btw_not {n lo hi : Int} : btw n lo hi = false ↔ ¬ (lo ≤ n ∧ n ≤ hi) := by rw [← btw_iff]; simp
theorem between_any (n lo hi : Int) (w : World) : Calls Try.prog 65 #[.int .i64 n, .int .i64 lo, .int .i64 hi] w fun e w' => e = .returned (.bool (btw n lo hi)) ∧ ∃ x, w' = ext w x := by
  by_cases h1 : lo ≤ n <;> by_cases h2 : n ≤ hi
  all_goals
    go_enter Try.func65, Try.ntmps65
    go_wp2
    go_ret
    exact ⟨by simp [h1, h2, btw], ext_refl _⟩
theorem between_b (n lo hi : Int) (b : Bool) (h : btw n lo hi = b) (w : World) : Calls Try.prog 65 #[.int .i64 n, .int .i64 lo, .int .i64 hi] w fun e w' => e = .returned (.bool b) ∧ ∃ x, w' = ext w x := h ▸ between_any n lo hi w
theorem l1In_any (n lo hi : Int) (w : World) : Calls Try.prog 67 #[.int .i64 n, .int .i64 lo, .int .i64 hi] w fun e w' => e = .returned (.bool (btw n lo hi)) ∧ ∃ x, w' = ext w x := by
  by_cases h1 : lo ≤ n <;> by_cases h2 : n ≤ hi
  all_goals
    go_enter Try.func67, Try.ntmps67
    go_wp2
    go_ret
    exact ⟨by simp [h1, h2, btw], ext_refl _⟩
theorem l1In_b (n lo hi : Int) (b : Bool) (h : btw n lo hi = b) (w : World) : Calls Try.prog 67 #[.int .i64 n, .int .i64 lo, .int .i64 hi] w fun e w' => e = .returned (.bool b) ∧ ∃ x, w' = ext w x := h ▸ l1In_any n lo hi w
end
section
open Go.ChangeShapes Go.WideShapes Go.ChangeAt Go.RowKit
def cv (c : Int × Int) : List Value := [iv c.1, iv c.2]
def cx (cs : List (Int × Int)) (k : Nat) : Int := (cs.getD k (0, 0)).1
def cy (cs : List (Int × Int)) (k : Nat) : Int := (cs.getD k (0, 0)).2
/-- cs read from a slice of cells -/
def CellsAt (w : World) (v : Value) (cs : List (Int × Int)) : Prop := Sl w 2 v cs.length (cs.flatMap cv)
theorem CellsAt.mono {w w' : World} {v : Value} {cs : List (Int × Int)} (h : CellsAt w v cs) (hb : Below w.heap.size w w') : CellsAt w' v cs := Sl.mono h hb
theorem flat_len (cs : List (Int × Int)) : (cs.flatMap cv).length = cs.length * 2 := by
  induction cs with
  | nil => rfl
  | cons c cs ih => simp [cv] at ih ⊢; omega
theorem flat_at (cs : List (Int × Int)) (k : Nat) (h : k < cs.length) : (cs.flatMap cv)[k * 2 + 0]? = some (.int .i64 (cx cs k)) ∧ (cs.flatMap cv)[k * 2 + 1]? = some (.int .i64 (cy cs k)) := by
  induction cs generalizing k with
  | nil => simp at h
  | cons c cs ih =>
    cases k with
    | zero => simp [cv, iv, cx, cy]
    | succ k =>
      have := ih k (by simpa using h)
      simp only [List.flatMap_cons, cv, List.cons_append, List.nil_append]
      rw [show (k + 1) * 2 + 0 = (k * 2 + 0) + 1 + 1 by omega, show (k + 1) * 2 + 1 = (k * 2 + 1) + 1 + 1 by omega]
      simpa [cx, cy] using this
theorem infoCell : (Try.prog.info? 64).map (fun i => i.size) = some 2 := by kernel_rfl
theorem infoCell3 : (Try.prog.info? 64).map (fun i => (i.zero, i.size, i.bytes)) = some (some (.agg #[.int .i64 0, .int .i64 0]), 2, 16) := by kernel_rfl
theorem CellsAt.opn {w : World} {v : Value} {cs : List (Int × Int)} (h : CellsAt w v cs) :
    ∃ a b o cap, v = .slice a cs.length cap ∧ cs.length ≤ cap ∧ cs.length ≤ 9223372036854775807 ∧ cap ≤ 9223372036854775807 ∧ ∀ k, k < cs.length → Old w b ∧ (∀ w', (Instr.indexAt 39 (.slice a cs.length cap) (.int .i64 k)).run Try.prog w' = .ok (.pointer (some ⟨b, o + k * 2, none⟩)) w') ∧
      w.cell? ⟨b, o + k * 2, none⟩ = some (.int .i64 (cx cs k)) ∧ w.cell? ⟨b, o + k * 2 + 1, none⟩ = some (.int .i64 (cy cs k)) := by
  obtain ⟨a, b, o, cap, rfl, h1, h2, h3, h4⟩ := Sl.idx h Try.underlying39 infoCell
  refine ⟨a, b, o, cap, rfl, h1, h2, h3, fun k hk => ?_⟩
  obtain ⟨g1, g2, g3⟩ := h4 k hk
  refine ⟨g1, g2, ?_, ?_⟩
  · have := g3 0 (by omega)
    rw [Nat.add_zero] at this
    rw [this]; exact (flat_at cs k hk).1
  · rw [g3 1 (by omega)]; exact (flat_at cs k hk).2
def bef (x y x' y' : Int) : Bool := decide (y < y') || (y == y' && decide (x < x'))
def onB (x y : Int) : Bool := btw x 0 7 && btw y 0 7
theorem l2Before_any (x y x' y' : Int) (w : World) : Calls Try.prog 90 #[.agg #[.int .i64 x, .int .i64 y], .agg #[.int .i64 x', .int .i64 y']] w fun e w' => e = .returned (.bool (bef x y x' y')) ∧ ∃ x, w' = ext w x := by
  have HF := Lib.hid (show bef x y x' y' = (decide (y < y') || (y == y' && decide (x < x'))) from rfl)
  by_cases h1 : y < y'
  · go_enter Try.func90, Try.ntmps90
    go_wp2_with fail
    go_ret
    exact ⟨ret_bool (by rw [HF.out]; simp [h1]), (by repeat (first | exact ext_refl _ | (with_reducible assumption) | refine ext_ext' ?_ _ | refine ext_alloc' ?_ _ | refine ext_drew' ?_))⟩
  by_cases h2 : y = y'
  · by_cases h3 : x < x'
    all_goals
      have h2' : (y == y') = true := beq_iff_eq.2 h2
      have H2 := Lib.hid h2
      clear h2
      go_enter Try.func90, Try.ntmps90
      go_wp2_with fail
      go_ret
      exact ⟨ret_bool (by rw [HF.out]; simp [H2.out, h3]), (by repeat (first | exact ext_refl _ | (with_reducible assumption) | refine ext_ext' ?_ _ | refine ext_alloc' ?_ _ | refine ext_drew' ?_))⟩
  · have h2' : (y == y') = false := beq_eq_false_iff_ne.2 h2
    have H2 := Lib.hid h2
    clear h2
    go_enter Try.func90, Try.ntmps90
    go_wp2_with fail
    go_ret
    exact ⟨ret_bool (by rw [HF.out]; simp [H2.out, h1]), (by repeat (first | exact ext_refl _ | (with_reducible assumption) | refine ext_ext' ?_ _ | refine ext_alloc' ?_ _ | refine ext_drew' ?_))⟩
end
section
open Go.ChangeShapes Go.WideShapes Go.ChangeAt Go.RowKit
abbrev OwnC (w : World) (B : Nat) (v : Value) (cs : List (Int × Int)) : Prop := w.ownsRow B 64 2 v cs.length (cs.flatMap cv)
theorem CellsAt_own {w : World} {B : Nat} {v : Value} {cs : List (Int × Int)} (h : OwnC w B v cs) : CellsAt w v cs := Sl_own h
theorem own_ext {w : World} {B e sz : Nat} {v : Value} {n : Nat} {xs : List Value} (h : w.ownsRow B e sz v n xs) (x : Ext) : (ext w x).ownsRow B e sz v n xs := by
  refine ⟨h.1, ?_⟩
  rcases h.2 with h2 | ⟨g, cap, cur, h1, h2, h3, h4⟩
  · exact .inl h2
  · exact .inr ⟨g, cap, cur, h1, h2, by rw [heap_ext w x (Array.getElem?_eq_some_iff.1 h3).1]; exact h3, h4⟩
def partC (cs : List (Int × Int)) (k : Nat) : List Value := (cs.take k).flatMap cv ++ List.replicate ((cs.length - k) * 2) (iv 0)
theorem partC_zero (cs : List (Int × Int)) : partC cs 0 = List.replicate (cs.length * 2) (iv 0) := by simp [partC]
theorem partC_all (cs : List (Int × Int)) : partC cs cs.length = cs.flatMap cv := by simp [partC]
theorem partC_step (cs : List (Int × Int)) (k : Nat) (h : k < cs.length) : ((partC cs k).set (k * 2) (.int .i64 (cx cs k))).set (k * 2 + 1) (.int .i64 (cy cs k)) = partC cs (k + 1) := by
  have e1 : ((cs.take k).flatMap cv).length = k * 2 := by rw [flat_len]; simp; omega
  have e2 : cs.take (k + 1) = cs.take k ++ [(cx cs k, cy cs k)] := by
    have e : (cx cs k, cy cs k) = cs[k] := by simp [cx, cy, List.getD, h]
    rw [e, List.take_succ_eq_append_getElem h]
  have e3 : List.replicate ((cs.length - k) * 2) (iv 0) = iv 0 :: iv 0 :: List.replicate ((cs.length - (k + 1)) * 2) (iv 0) := by
    rw [show (cs.length - k) * 2 = (cs.length - (k + 1)) * 2 + 1 + 1 by omega]; rfl
  rw [partC, partC, e2, e3, List.flatMap_append]
  rw [List.set_append_right _ _ (by omega), e1, Nat.sub_self, List.set_append_right _ _ (by omega), e1, show k * 2 + 1 - k * 2 = 1 by omega]
  simp [cv, iv]
theorem partC_cell (cs : List (Int × Int)) (k : Nat) (h : k < cs.length) : ∃ u u', (partC cs k)[k * 2]? = some u ∧ (partC cs k)[k * 2 + 1]? = some u' := by
  have e1 : ((cs.take k).flatMap cv).length = k * 2 := by rw [flat_len]; simp; omega
  have e3 : List.replicate ((cs.length - k) * 2) (iv 0) = iv 0 :: iv 0 :: List.replicate ((cs.length - (k + 1)) * 2) (iv 0) := by
    rw [show (cs.length - k) * 2 = (cs.length - (k + 1)) * 2 + 1 + 1 by omega]; rfl
  refine ⟨iv 0, iv 0, ?_, ?_⟩
  · rw [partC, e3, List.getElem?_append_right (by omega), e1]; simp
  · rw [partC, e3, List.getElem?_append_right (by omega), e1, show k * 2 + 1 - k * 2 = 1 by omega]; simp
theorem madeTwo (z : Value) (n : Nat) : (madeCells #[z, z] n).toList = List.replicate n z := by
  apply List.ext_getElem?
  intro i
  by_cases h : i < n
  · have : i % 2 = 0 ∨ i % 2 = 1 := by omega
    rcases this with e | e <;> simp [madeCells, h, e]
  · simp [madeCells, h]
def eqc (x y x' y' : Int) : Bool := (x == x') && (y == y')
def eqCells (a b : List (Int × Int)) : Bool := decide (a.length = b.length) && allTo (fun k => eqc (cx a k) (cy a k) (cx b k) (cy b k)) a.length
theorem eqCells_self (a : List (Int × Int)) : eqCells a a = true := by simp [eqCells, allTo_true, eqc]
theorem eqCells_eq {a b : List (Int × Int)} (h : eqCells a b = true) : a = b := by
  simp [eqCells, allTo_true, cx, cy, eqc] at h
  apply List.ext_getElem h.1
  intro i h1 h2
  have := h.2 i h1
  simp [h1, h2] at this
  exact Prod.ext this.1 this.2
end
section
open Go.ChangeShapes Go.WideShapes Go.ChangeAt Go.RowKit
abbrev rowC (v : Value) (cs : List (Int × Int)) : Row := ⟨v, 64, 2, cs.length, cs.flatMap cv⟩
theorem elemCell : Elem Try.prog 39 64 2 16 (.agg #[.int .i64 0, .int .i64 0]) := ⟨Try.underlying39, infoCell3, rfl, by decide⟩
theorem Sl_cell (w : World) (x y : Int) (t : TypeId) : Sl (w.alloc (.cells #[.int .i64 x, .int .i64 y] t)) 2 (.slice (some ⟨w.heap.size, 0, none⟩) 1 1) 1 [.int .i64 x, .int .i64 y] :=
  Sl_new w #[.int .i64 x, .int .i64 y] t 2 1 rfl (by simp [maxLen]) (by omega)
theorem one_cell (x y : Int) : ∀ u ∈ [Value.int .i64 x, Value.int .i64 y], u.oneCell' = true := by
  intro u hu
  simp at hu
  rcases hu with rfl | rfl <;> rfl
theorem Held.cells {W0 w : World} {L : List Row} (H : Held W0 w L) {v : Value} {cs : List (Int × Int)} (h : rowC v cs ∈ L) : CellsAt w v cs := H.sl h
theorem Held.cells0 {W0 w : World} {L : List Row} {v : Value} {cs : List (Int × Int)} (H : Held W0 w (rowC v cs :: L)) : CellsAt w v cs := H.sl List.mem_cons_self
theorem Held.oldC {W0 w : World} {L : List Row} (H : Held W0 w L) {v : Value} {cs : List (Int × Int)} (h : CellsAt W0 v cs) : CellsAt w v cs := h.mono H.bel
theorem Held.rowCV {W0 w : World} {L : List Row} {v : Value} {cs : List (Int × Int)} (H : Held W0 w (rowC v cs :: L)) : ∃ a c, v = .slice a cs.length c := own_slice (H.own _ List.mem_cons_self)
theorem Held.nilC {W0 w : World} {L : List Row} (H : Held W0 w L) : Held W0 w (rowC (.slice none 0 0) [] :: L) := ⟨H.bel, (fun r hr => by
    rcases List.mem_cons.1 hr with rfl | hr
    · exact World.ownsRow_nil _ _ _ _
    · exact H.own r hr), List.Pairwise.cons (fun r hr g hg => by cases hg) H.apart⟩
theorem Held.snocC {W0 w : World} {L : List Row} {v : Value} {cs : List (Int × Int)} {x y : Int} (H : Held W0 w (⟨v, 64, 2, cs.length + 1, cs.flatMap cv ++ [.int .i64 x, .int .i64 y]⟩ :: L)) : Held W0 w (rowC v (cs ++ [(x, y)]) :: L) := by
  rw [rowC, List.flatMap_append, List.length_append]
  exact H
/-- a fresh slice of cells -/
def CellsPost (w : World) (cs : List (Int × Int)) (e : Ending) (w' : World) : Prop := ∃ v', e = .returned v' ∧ Held w w' [rowC v' cs]
theorem CellsPost.nil {w w' : World} {cs : List (Int × Int)} (h : cs = []) (hx : ∃ x, w' = ext w x) : CellsPost w cs (.returned (.slice none 0 0)) w' := by
  subst h; exact ⟨_, rfl, ((Held.start w).to hx).nilC⟩
theorem CellsPost.empty {w w' : World} {cs : List (Int × Int)} {v : Value} {L : List Row} (h : cs = []) (H : Held w w' (⟨v, 64, 2, 0, []⟩ :: L)) : CellsPost w cs (.returned v) w' := by
  subst h; exact ⟨_, rfl, H.first⟩
theorem CellsPost.got {w w' : World} {cs ds : List (Int × Int)} {v : Value} {L : List Row} (h : cs = ds) (H : Held w w' (rowC v ds :: L)) : CellsPost w cs (.returned v) w' := by
  subst h; exact ⟨_, rfl, H.first⟩
end
section
open Go.ChangeShapes Go.WideShapes Go.ChangeAt Go.RowKit
section
variable {H : Type} {enc : TypeId × Value → H} {W : World} {base : Nat}
theorem IntsAt_trod {fuel : Nat} {v : Value} {x : DataW H × List MemPlace} (h : DataW.trod enc Try.prog W 0 (fun _ => true) true fuel 22 [v] = some x) : ∃ zs, IntsAt W v zs ∧ ∀ n ∈ zs, (Lit.int .i64 n).wf = true := by
  rcases open_ints Try.underlying22 Try.underlying3 (by kernel_rfl) h with ⟨hcs, _⟩ | ⟨ad, l, c, zs, hcs, _, hl, hm, hz, _, hcell, hwz⟩
  · simp only [List.cons.injEq, and_true] at hcs
    subst hcs
    exact ⟨[], ⟨none, 0, 0, 0, rfl, by simp, by simp [maxLen], by simp, fun h => by simp at h, fun i hi => by simp at hi⟩, fun n hn => by cases hn⟩
  · simp only [List.cons.injEq, and_true] at hcs
    subst hcs
    simp only [if_true] at hz
    have htl : (zs.take l).length = l := by simp; omega
    refine ⟨zs.take l, ?_, fun n hn => hwz n (List.mem_of_mem_take hn)⟩
    by_cases hp : 0 < zs.length
    · obtain ⟨b, o, rfl, hc⟩ := ints_at hcell hp
      refine ⟨_, b, o, c, by rw [htl], by omega, hm, by simp, fun hn => ⟨rfl, World.block_lt_of_cell? W ⟨b, o + 0, none⟩ (hc 0 hp)⟩, fun i hi => ?_⟩
      have hi' : i < l := by simp at hi; omega
      rw [hc i (by omega), List.map_take, List.getElem?_take, if_pos hi']
      simp [iv, List.getD, show i < zs.length by omega]
    · have : l = 0 := by omega
      subst this
      refine ⟨some ad, 0, 0, c, by simp, by simp, hm, by simp, fun hn => by simp at hn, fun i hi => by simp at hi⟩
set_option maxRecDepth 10000 in
theorem open_IntsAt {v : Value} {d : DataW H} {p : List MemPlace} (h : DataW.Trod enc Try.prog W 0 (fun _ => true) true 22 v d p) (hv : Value.okWide Try.prog W .any base 22 v) :
    ∃ zs, IntsAt W v zs ∧ ∀ n ∈ zs, (Lit.int .i64 n).wf = true := by
  obtain ⟨a, len, cap, rfl⟩ := okWide_slice Try.underlying22 hv
  obtain ⟨fuel, hf⟩ := h
  exact IntsAt_trod (by simpa [Value.cells] using hf)
end
end
section
open Go.ChangeShapes Go.WideShapes Go.ChangeAt Go.RowKit
def szLeftI (n : Nat) (left : Int) : Int := if left - n < 0 then -1 else left - n
theorem szIntS_any (cs : List Int) (v : Value) (left : Int) (w : World) (h : IntsAt w v cs) (h1 : 0 ≤ left) (h2 : left ≤ 1048576) :
    Calls Try.prog 39 #[v, .int .i64 left] w fun e w' => e = .returned (.int .i64 (szLeftI cs.length left)) ∧ ∃ x, w' = ext w x := by
  obtain ⟨a, b, o, cap, rfl, hc1, hc2, hc3, hcell⟩ := h.opn
  clear hcell
  have HF := Lib.hid (show szLeftI cs.length left = if left - cs.length < 0 then -1 else left - cs.length from rfl)
  by_cases hlt : left - cs.length < 0
  · go_enter Try.func39, Try.ntmps39
    go_wp2_with fail
    go_ret
    exact ⟨ret_int (by rw [HF.out, if_pos (by omega)]), (by repeat (first | exact ext_refl _ | (with_reducible assumption) | refine ext_ext' ?_ _ | refine ext_alloc' ?_ _ | refine ext_drew' ?_))⟩
  · go_enter Try.func39, Try.ntmps39
    go_wp2_with fail
    go_ret
    exact ⟨ret_int (by rw [HF.out, if_neg (by omega)]), (by repeat (first | exact ext_refl _ | (with_reducible assumption) | refine ext_ext' ?_ _ | refine ext_alloc' ?_ _ | refine ext_drew' ?_))⟩
theorem szLeftI_neg {n : Nat} {left : Int} (h0 : 0 ≤ left) : szLeftI n left < 0 ∨ 0 ≤ szLeftI n left ∧ szLeftI n left ≤ left ∧ (n : Int) ≤ left := by
  unfold szLeftI
  split <;> omega
theorem szLeftI_m1 {n : Nat} {left : Int} (h : szLeftI n left < 0) (h0 : 0 ≤ left) : szLeftI n left = -1 := by
  unfold szLeftI at h ⊢
  split at h <;> rename_i hh
  · rw [if_pos hh]
  · omega
end
section
open Go.ChangeShapes Go.WideShapes Go.ChangeAt Go.RowKit
def RegionAt (w : World) (v : Value) (r : Int × List Int) : Prop := ∃ u, v = .agg #[.int .i64 r.1, u] ∧ IntsAt w u r.2
theorem szRegion_any (wd : Int) (rows : List Int) (v : Value) (left : Int) (w : World) (h : IntsAt w v rows) (h1 : 0 ≤ left) (h2 : left ≤ 1048576) :
    Calls Try.prog 6 #[.agg #[.int .i64 wd, v], .int .i64 left] w fun e w' => e = .returned (.int .i64 (szLeftI rows.length left)) ∧ ∃ x, w' = ext w x := by
  rcases szLeftI_neg (n := rows.length) h1 with hneg | hpos
  · have HM := Lib.hid (szLeftI_m1 hneg h1)
    go_enter Try.func6, Try.ntmps6
    go_wp2_with (first | (go_at_call 39; refine (szIntS_any _ _ _ _ (by first | (with_reducible assumption) | (with_reducible exact IntsAt.mono (by assumption) (bel_of_ext (by repeat (first | exact ext_refl _ | (with_reducible assumption) | refine ext_ext' ?_ _ | refine ext_alloc' ?_ _ | refine ext_drew' ?_))))) h1 h2).mono ?_; rintro e w' ⟨rfl, xe, rfl⟩))
    go_ret
    exact ⟨ret_int (by rw [HM.out]), (by repeat (first | exact ext_refl _ | (with_reducible assumption) | refine ext_ext' ?_ _ | refine ext_alloc' ?_ _ | refine ext_drew' ?_))⟩
  · have hp : ¬ szLeftI rows.length left < 0 := by omega
    go_enter Try.func6, Try.ntmps6
    go_wp2_with (first | (go_at_call 39; refine (szIntS_any _ _ _ _ (by first | (with_reducible assumption) | (with_reducible exact IntsAt.mono (by assumption) (bel_of_ext (by repeat (first | exact ext_refl _ | (with_reducible assumption) | refine ext_ext' ?_ _ | refine ext_alloc' ?_ _ | refine ext_drew' ?_))))) h1 h2).mono ?_; rintro e w' ⟨rfl, xe, rfl⟩))
    go_ret
    exact ⟨rfl, (by repeat (first | exact ext_refl _ | (with_reducible assumption) | refine ext_ext' ?_ _ | refine ext_alloc' ?_ _ | refine ext_drew' ?_))⟩
theorem toRegion_any (wd : Int) (rows : List Int) (v : Value) (w : World) (h : IntsAt w v rows) (hs : rows.length ≤ 1099511627776) :
    Calls Try.prog 8 #[.agg #[.int .i64 wd, v]] w fun e w' => ∃ v', e = .returned (.agg #[.int .i64 wd, v']) ∧ (∃ x, w' = ext w x) ∧ OwnI w' w.heap.size v' rows := by
  go_enter Try.func8, Try.ntmps8
  go_wp2_with (first | (go_at_call 44; refine (toIntS_any _ _ _ (by first | (with_reducible assumption) | (with_reducible exact IntsAt.mono (by assumption) (bel_of_ext (by repeat (first | exact ext_refl _ | (with_reducible assumption) | refine ext_ext' ?_ _ | refine ext_alloc' ?_ _ | refine ext_drew' ?_))))) hs).mono ?_; rintro e w' ⟨u, rfl, ⟨xe, rfl⟩, own⟩; obtain ⟨ua, uc, rfl⟩ := own_slice own))
  refine bodyPost_ret (v := .agg #[.int .i64 wd, .slice ua rows.length uc]) (by simp [results, Try.results8, go_sem]) rfl ⟨_, rfl, (by repeat (first | exact ext_refl _ | (with_reducible assumption) | refine ext_ext' ?_ _ | refine ext_alloc' ?_ _ | refine ext_drew' ?_)), own_base (own_move own (by simp) (Nat.le_refl _)) (by simp; omega)⟩
def eqReg (wd : Int) (rows : List Int) (wd' : Int) (rows' : List Int) : Bool := (wd == wd') && eqInts rows rows'
theorem eqReg_self (wd : Int) (rows : List Int) : eqReg wd rows wd rows = true := by simp [eqReg, eqInts_self]
theorem eqRegion_any (wd wd' : Int) (rows rows' : List Int) (v v' : Value) (w : World) (h : IntsAt w v rows) (h' : IntsAt w v' rows') :
    Calls Try.prog 11 #[.agg #[.int .i64 wd, v], .agg #[.int .i64 wd', v']] w fun e w' => e = .returned (.bool (eqReg wd rows wd' rows')) ∧ ∃ x, w' = ext w x := by
  have HF := Lib.hid (show eqReg wd rows wd' rows' = ((wd == wd') && eqInts rows rows') from rfl)
  cases h1 : wd == wd'
  · have h1' : (wd != wd') = true := by rw [bne, h1]; rfl
    go_enter Try.func11, Try.ntmps11
    go_wp2_with fail
    go_ret
    exact ⟨ret_bool (by rw [HF.out, h1]; rfl), (by repeat (first | exact ext_refl _ | (with_reducible assumption) | refine ext_ext' ?_ _ | refine ext_alloc' ?_ _ | refine ext_drew' ?_))⟩
  · have h1' : (wd != wd') = false := by rw [bne, h1]; rfl
    cases h2 : eqInts rows rows'
    all_goals
      go_enter Try.func11, Try.ntmps11
      go_wp2_with (first | (go_at_call 51; refine (eqIntS_any _ _ _ _ _ (by first | (with_reducible assumption) | (with_reducible exact IntsAt.mono (by assumption) (bel_of_ext (by repeat (first | exact ext_refl _ | (with_reducible assumption) | refine ext_ext' ?_ _ | refine ext_alloc' ?_ _ | refine ext_drew' ?_))))) (by first | (with_reducible assumption) | (with_reducible exact IntsAt.mono (by assumption) (bel_of_ext (by repeat (first | exact ext_refl _ | (with_reducible assumption) | refine ext_ext' ?_ _ | refine ext_alloc' ?_ _ | refine ext_drew' ?_)))))).mono ?_; rintro e w' ⟨rfl, xe, rfl⟩))
      go_ret
      exact ⟨ret_bool (by rw [HF.out, h1, h2]; rfl), (by repeat (first | exact ext_refl _ | (with_reducible assumption) | refine ext_ext' ?_ _ | refine ext_alloc' ?_ _ | refine ext_drew' ?_))⟩
section
variable {H : Type} {enc : TypeId × Value → H} {W : World} {base : Nat}
set_option maxRecDepth 10000 in
open Go.Joins in
theorem open_RegionAt {v : Value} {d : DataW H} {p : List MemPlace} (h : DataW.Trod enc Try.prog W 0 (fun _ => true) true 24 v d p) (hv : Value.okWide Try.prog W .any base 24 v) :
    ∃ r, RegionAt W v r ∧ (Lit.int .i64 r.1).wf = true ∧ ∀ n ∈ r.2, (Lit.int .i64 n).wf = true := by
  obtain ⟨c0, c1, y0, y1, m, rfl, _, _, hy0, hy1⟩ := open_agg2 Try.underlying24 (by kernel_rfl) (by kernel_rfl) hv h
  obtain ⟨a, e0, _, wa⟩ := DataW.trod_int Try.underlying3 hy0
  simp only [List.cons.injEq, and_true] at e0
  subst e0
  obtain ⟨zs, hz, hw⟩ := IntsAt_trod hy1
  exact ⟨(a, zs), ⟨_, rfl, hz⟩, wa, hw⟩
end
end
section
open Go.ChangeShapes Go.WideShapes Go.ChangeAt Go.RowKit
def vAt (vs : List Value) (k : Nat) : Value := vs.getD k undef
def rAt (xss : List (List Int)) (k : Nat) : List Int := xss.getD k []
def RowsAt (w : World) (v : Value) (xss : List (List Int)) : Prop :=
  ∃ vs : List Value, Sl w 1 v xss.length vs ∧ ∀ k, k < xss.length → IntsAt w (vAt vs k) (rAt xss k)
theorem RowsAt.mono {w w' : World} {v : Value} {xss : List (List Int)} (h : RowsAt w v xss) (hb : Below w.heap.size w w') : RowsAt w' v xss := by
  obtain ⟨vs, h1, h2⟩ := h
  exact ⟨vs, h1.mono hb, fun k hk => (h2 k hk).mono hb⟩
theorem infoInts : (Try.prog.info? 22).map (fun i => i.size) = some 1 := by kernel_rfl
theorem infoInts3 : (Try.prog.info? 22).map (fun i => (i.zero, i.size, i.bytes)) = some (some (.slice none 0 0), 1, 24) := by kernel_rfl
theorem elemInts : Elem Try.prog 52 22 1 24 (.slice none 0 0) := ⟨Try.underlying52, infoInts3, rfl, by decide⟩
theorem RowsAt.opn {w : World} {v : Value} {xss : List (List Int)} (h : RowsAt w v xss) :
    ∃ a b o cap vs, v = .slice a xss.length cap ∧ xss.length ≤ cap ∧ xss.length ≤ 9223372036854775807 ∧ cap ≤ 9223372036854775807 ∧ ∀ k, k < xss.length → Old w b ∧ (∀ w', (Instr.indexAt 52 (.slice a xss.length cap) (.int .i64 k)).run Try.prog w' = .ok (.pointer (some ⟨b, o + k, none⟩)) w') ∧
      w.cell? ⟨b, o + k, none⟩ = some (vAt vs k) ∧ IntsAt w (vAt vs k) (rAt xss k) := by
  obtain ⟨vs, h0, hr⟩ := h
  have hlen : vs.length = xss.length := by obtain ⟨_, _, _, _, _, _, _, h3, _⟩ := h0; simpa using h3
  obtain ⟨a, b, o, cap, rfl, h1, h2, h3, h4⟩ := Sl.idx h0 Try.underlying52 infoInts
  refine ⟨a, b, o, cap, vs, rfl, h1, h2, h3, fun k hk => ?_⟩
  obtain ⟨g1, g2, g3⟩ := h4 k hk
  refine ⟨g1, fun w' => by have := g2 w'; rwa [Nat.mul_one] at this, ?_, hr k hk⟩
  have := g3 0 (by omega)
  rw [Nat.mul_one, Nat.add_zero, Nat.add_zero] at this
  rw [this, vAt, List.getD, List.getElem?_eq_getElem (by omega)]
  rfl
/-- inner rows -/
def rowsI (vs : List Value) (xss : List (List Int)) : List Row := List.zipWith rowI vs xss
theorem rowsI_snoc (vs : List Value) (xss : List (List Int)) (v : Value) (xs : List Int) (h : vs.length = xss.length) : rowsI (vs ++ [v]) (xss ++ [xs]) = rowsI vs xss ++ [rowI v xs] := by
  simp [rowsI, List.zipWith_append h]
theorem rowsI_mem {vs : List Value} {xss : List (List Int)} {k : Nat} (h : vs.length = xss.length) (hk : k < xss.length) : rowI (vAt vs k) (rAt xss k) ∈ rowsI vs xss := by
  have h1 : k < vs.length := by omega
  have : (rowsI vs xss)[k]? = some (rowI (vAt vs k) (rAt xss k)) := by
    simp [rowsI, List.getElem?_zipWith, vAt, rAt, List.getD, h1, hk]
  exact List.mem_of_getElem? this
/-- a slice of rows that the call has made: the outer row and the inner ones -/
def grpR (v : Value) (vs : List Value) (xss : List (List Int)) : List Row := ⟨v, 22, 1, xss.length, vs⟩ :: rowsI vs xss
abbrev grpI (v : Value) (xs : List Int) : List Row := [rowI v xs]
/-! ### groups -/
def HeldG (W0 w : World) (G : List (List Row)) : Prop := Held W0 w G.flatten
theorem HeldG.start (w : World) : HeldG w w [] := Held.start w
theorem HeldG.bel {W0 w : World} {G : List (List Row)} (H : HeldG W0 w G) : Below W0.heap.size W0 w := Held.bel H
theorem HeldG.ext {W0 w : World} {G : List (List Row)} (H : HeldG W0 w G) (x : Ext) : HeldG W0 (ext w x) G := Held.ext H x
theorem HeldG.to {W0 w w' : World} {G : List (List Row)} (H : HeldG W0 w G) (h : ∃ x, w' = Proofs.Ytchcepihmphdmaa.ext w x) : HeldG W0 w' G := Held.to H h
theorem HeldG.push {W0 w w' : World} {G : List (List Row)} {g : List Row} (H : HeldG W0 w G) (K : Held w w' g) : HeldG W0 w' (g :: G) := Held.join H K
theorem HeldG.pushI {W0 w w' : World} {G : List (List Row)} {v : Value} {xs : List Int} (H : HeldG W0 w G) (h : ∃ x, w' = Proofs.Ytchcepihmphdmaa.ext w x) (ho : OwnI w' w.heap.size v xs) : HeldG W0 w' (grpI v xs :: G) := H.push (Held.fresh ho (ext_refl w) h)
theorem HeldG.pull {W0 w : World} {G : List (List Row)} {g : List Row} (H : HeldG W0 w G) (i : Nat) (h : G[i]? = some g) : HeldG W0 w (g :: G.eraseIdx i) := Held.front H (perm_pull G i h).flatten
theorem HeldG.row {W0 w : World} {G : List (List Row)} (H : HeldG W0 w G) {g : List Row} {v : Value} {e sz n : Nat} {cs : List Value} (hg : g ∈ G) (hr : (⟨v, e, sz, n, cs⟩ : Row) ∈ g) : Sl w sz v n cs := Held.sl H (List.mem_flatten.2 ⟨g, hg, hr⟩)
theorem HeldG.ints {W0 w : World} {G : List (List Row)} (H : HeldG W0 w G) {v : Value} {xs : List Int} (hg : grpI v xs ∈ G) : IntsAt w v xs := H.row hg List.mem_cons_self
theorem HeldG.oldI {W0 w : World} {G : List (List Row)} (H : HeldG W0 w G) {v : Value} {xs : List Int} (h : IntsAt W0 v xs) : IntsAt w v xs := h.mono H.bel
theorem HeldG.oldR {W0 w : World} {G : List (List Row)} (H : HeldG W0 w G) {v : Value} {xs : List (List Int)} (h : RowsAt W0 v xs) : RowsAt w v xs := h.mono H.bel
theorem HeldG.rows {W0 w : World} {G : List (List Row)} (H : HeldG W0 w G) {v : Value} {vs : List Value} {xss : List (List Int)} (hl : vs.length = xss.length) (hg : grpR v vs xss ∈ G) : RowsAt w v xss :=
  ⟨vs, H.row hg List.mem_cons_self, fun _ hk => H.row hg (List.mem_cons_of_mem _ (rowsI_mem hl hk))⟩
theorem Held.rows {W0 w : World} {L : List Row} {v : Value} {vs : List Value} {xss : List (List Int)} (H : Held W0 w (grpR v vs xss ++ L)) (hl : vs.length = xss.length) : RowsAt w v xss :=
  ⟨vs, Held.sl H (List.mem_append_left _ List.mem_cons_self), fun _ hk => Held.sl H (List.mem_append_left _ (List.mem_cons_of_mem _ (rowsI_mem hl hk)))⟩
theorem markIntS_heldG {W0 : World} {G : List (List Row)} (xs : List Int) (v : Value) (k : Int) (w : World) (H : HeldG W0 w (grpI v xs :: G)) (h0 : 0 ≤ k) (h1 : k ≤ 1099511627776) (hs : xs.length ≤ 1099511627776) :
    Calls Try.prog 52 #[v, .int .i64 k] w fun e w' => e = .returned (.int .i64 (k + xs.length)) ∧ HeldG W0 w' (grpI v (marks k xs.length) :: G) := markIntS_held xs v k w H h0 h1 hs
theorem HeldG.rows2 {W0 w : World} {G : List (List Row)} (H : HeldG W0 w G) {v : Value} {vs : List Value} {xss : List (List Int)} (hg : grpR v vs xss ∈ G) (hl : vs.length = xss.length) : RowsAt w v xss := H.rows hl hg
/-! ### reading, comparing, measuring -/
def eqRows (a b : List (List Int)) : Bool := decide (a.length = b.length) && allTo (fun k => eqInts (rAt a k) (rAt b k)) a.length
theorem eqRows_self (a : List (List Int)) : eqRows a a = true := by simp [eqRows, allTo_true, eqInts_self]
/-! ### marks -/
def sumLen (xss : List (List Int)) : Nat → Nat := iter (fun i n => n + (rAt xss i).length) 0
theorem sumLen_succ (xss : List (List Int)) (j : Nat) : sumLen xss (j + 1) = sumLen xss j + (rAt xss j).length := rfl
theorem sumLen_mono (xss : List (List Int)) {i j : Nat} (h : i ≤ j) : sumLen xss i ≤ sumLen xss j := by
  induction j with
  | zero => simp at h; subst h; exact Nat.le_refl _
  | succ j ih =>
    by_cases e : i = j + 1
    · subst e; exact Nat.le_refl _
    · have := ih (by omega); rw [sumLen_succ]; omega
/-- the first j rows marked -/
def mixR (k : Int) (xss : List (List Int)) : Nat → List (List Int) := iter (fun j yss => yss.set j (marks (k + (sumLen xss j : Nat)) (rAt xss j).length)) xss
theorem mixR_succ (k : Int) (xss : List (List Int)) (j : Nat) : mixR k xss (j + 1) = (mixR k xss j).set j (marks (k + (sumLen xss j : Nat)) (rAt xss j).length) := rfl
theorem mixR_len (k : Int) (xss : List (List Int)) (j : Nat) : (mixR k xss j).length = xss.length := by
  induction j with
  | zero => rfl
  | succ j ih => rw [mixR_succ, List.length_set, ih]
theorem mixR_hi (k : Int) (xss : List (List Int)) (j i : Nat) (h : j ≤ i) : rAt (mixR k xss j) i = rAt xss i := by
  induction j with
  | zero => rfl
  | succ j ih =>
    rw [mixR_succ, rAt, List.getD, List.getElem?_set_ne (by omega)]
    exact ih (by omega)
theorem mixR_lo (k : Int) (xss : List (List Int)) (j i : Nat) (h : i < j) (hi : i < xss.length) : rAt (mixR k xss j) i = marks (k + (sumLen xss i : Nat)) (rAt xss i).length := by
  induction j with
  | zero => omega
  | succ j ih =>
    rw [mixR_succ, rAt, List.getD]
    by_cases e : i = j
    · subst e
      rw [List.getElem?_set_self (by rw [mixR_len]; exact hi)]; rfl
    · rw [List.getElem?_set_ne (by omega)]
      exact ih (by omega)
theorem rowsI_set (vs : List Value) (xss : List (List Int)) (j : Nat) (ys : List Int) (hl : vs.length = xss.length) (hj : j < xss.length) : (rowsI vs xss).set j (rowI (vAt vs j) ys) = rowsI vs (xss.set j ys) := by
  apply List.ext_getElem?
  intro i
  by_cases e : j = i
  · subst e
    have h1 : j < (rowsI vs xss).length := by simp [rowsI]; omega
    rw [List.getElem?_set_self h1]
    simp [rowsI, List.getElem?_zipWith, vAt, List.getD, hj, show j < vs.length by omega]
  · rw [List.getElem?_set_ne e]
    simp [rowsI, List.getElem?_zipWith, List.getElem?_set_ne e]
theorem perm_set {α : Type} (r' : α) : ∀ (L : List α) (i : Nat), i < L.length → (r' :: L.eraseIdx i).Perm (L.set i r')
  | [], i, h => by simp at h
  | x :: L, 0, h => List.Perm.refl _
  | x :: L, i + 1, h => (List.Perm.swap _ _ _).trans (List.Perm.cons x (perm_set r' L i (by simpa using h)))
def marksR (k : Int) (xss : List (List Int)) : List (List Int) := mixR k xss xss.length
def total (xss : List (List Int)) : Nat := sumLen xss xss.length
theorem rowsI_get {vs : List Value} {xss : List (List Int)} {k : Nat} (h : vs.length = xss.length) (hk : k < xss.length) : (rowsI vs xss)[k]? = some (rowI (vAt vs k) (rAt xss k)) := by
  have h1 : k < vs.length := by omega
  simp [rowsI, List.getElem?_zipWith, vAt, rAt, List.getD, h1, hk]
theorem Held.rowAt {W0 w : World} {L : List Row} {v : Value} {vs : List Value} {xss : List (List Int)} (H : Held W0 w (grpR v vs xss ++ L)) (hl : vs.length = xss.length) {j : Nat} (hj : j < xss.length) :
    ∃ L', Held W0 w (rowI (vAt vs j) (rAt xss j) :: L') ∧ ∀ ys, (rowI (vAt vs j) ys :: L').Perm (grpR v vs (xss.set j ys) ++ L) := by
  have e : (grpR v vs xss ++ L)[j + 1]? = some (rowI (vAt vs j) (rAt xss j)) := by
    have h1 : j < (rowsI vs xss).length := by simp [rowsI]; omega
    simp only [grpR, List.cons_append, List.getElem?_cons_succ]
    rw [List.getElem?_append_left h1, rowsI_get hl hj]
  refine ⟨_, H.pull (j + 1) e, fun ys => ?_⟩
  have hp := perm_set (rowI (vAt vs j) ys) (grpR v vs xss ++ L) (j + 1) (List.getElem?_eq_some_iff.1 e).1
  have h1 : j < (rowsI vs xss).length := by simp [rowsI]; omega
  have e2 : (grpR v vs xss ++ L).set (j + 1) (rowI (vAt vs j) ys) = grpR v vs (xss.set j ys) ++ L := by
    simp only [grpR, List.cons_append, List.set_cons_succ, List.length_set]
    rw [List.set_append_left _ _ h1, rowsI_set vs xss j ys hl hj]
  rw [← e2]; exact hp
end
section
open Go.ChangeShapes Go.WideShapes Go.ChangeAt Go.RowKit
/-- append to a queue: the whole row from the block's start is what is owned -/
theorem run_append_q {P : Program} (w : World) (base : Nat) (t ty e : TypeId) (z : Value) (size bytes : Nat) (E : Elem P t e size bytes z) (g o0 k n cap m : Nat) (u : Value) (ys xs news : List Value) (hl : ys.length = k * size) (ho0 : 0 < cap → o0 = k * size)
    (hown : w.ownsRow base e size (.slice (some ⟨g, 0, none⟩) (k + n) (k + cap)) (k + n) (ys ++ xs)) (hnc : n ≤ cap) (hsl : Sl w size u m news) (h1 : ∀ u ∈ news, u.oneCell' = true) (hm : 0 < m)
    (h63 : n + m ≤ maxLen) (hbytes : (n + m) * bytes ≤ 140737488355328) (hbase : base ≤ w.heap.size) :
    ∃ g' k' cap' ys' w', (Builtin.append_ #[t, t] ty #[.slice (some ⟨g, o0, none⟩) n cap, u]).run P w = .ok (.slice (some ⟨g', k' * size, none⟩) (n + m) cap') w' ∧ ys'.length = k' * size ∧ n + m ≤ cap' ∧
      w'.ownsRow base e size (.slice (some ⟨g', 0, none⟩) (k' + (n + m)) (k' + cap')) (k' + (n + m)) (ys' ++ (xs ++ news)) ∧ w.grownBy w' (some g) ∧ (g' = g ∨ g' = w.heap.size) := by
  obtain ⟨i, hi, hz, hsize, hby⟩ := info_parts E.info
  have ht := E.ut
  obtain ⟨a, b, o, cp, rfl, s1, s2, s3, s4, s5⟩ := hsl
  obtain ⟨rfl, hb⟩ := s4 hm
  have hnews : ∀ j v, news[j]? = some v → w.cell? ((⟨b, o, none⟩ : Addr).add j) = some v := fun j v hv => by
    have hj := (List.getElem?_eq_some_iff.1 hv).1
    rw [Go.WideShapes.add_plain, s5 j hj, hv]
  have hxl : xs.length = n * size := by
    have := hown.1
    rw [List.length_append, hl, Nat.add_mul] at this
    omega
  rcases hown.2 with ⟨h0, _⟩ | ⟨g0, cap0, cur, hv, hbg, hg, h2, hcm, hcs, htake⟩
  · cases h0
  · simp only [Value.slice.injEq, Option.some.injEq, Addr.mk.injEq, and_true, true_and] at hv
    obtain ⟨rfl, rfl⟩ := hv
    have hcap : cap ≤ maxLen := by omega
    by_cases hroom : n + m ≤ cap
    · obtain rfl := ho0 (by omega)
      have hfit : k * size + n * size + news.length ≤ cur.size := by
        rw [s3, hcs, ← Nat.add_mul, ← Nat.add_mul]; exact Nat.mul_le_mul_right _ (by omega)
      have hf := run_firstCells_some (P := P) w size m ⟨b, o, none⟩ m cp news s3 hnews
      have hst := run_storeCells_at P g (k * size + n * size) e news 0 cur w hg (by simpa using hfit) h1
      simp only [Nat.add_zero] at hst
      refine ⟨g, k, cap, ys, w.setRow g (cur.toList.take (k * size + n * size) ++ news ++ cur.toList.drop (k * size + n * size + news.length)).toArray, ?_, hl, hroom, ⟨?_, .inr ⟨g, k + cap, _, rfl, hbg, setRow_heap w g cur _ e _ hg, by omega, hcm, ?_, ?_⟩⟩, ⟨rfl, rfl, rfl, ?_, fun q _ hq => setRow_other w g q _ (fun e => hq (by rw [e]))⟩, .inl rfl⟩
      · simp [Builtin.append_, run_underlying ht, sizeOf, typeInfo, hi, Builtin.lenOf, hroom, hsize, hf, Addr.add_lit, hst]
      · simp only [List.length_append, hl, hxl, s3, Nat.add_mul]
      · simp only [List.size_toArray, List.length_append, List.length_take, List.length_drop, Array.length_toList]
        omega
      · have e1 : cur.toList.take (k * size + n * size) = ys ++ xs := by rw [← Nat.add_mul]; exact htake
        rw [e1]
        have e2 : (ys ++ xs ++ news).length = (k + (n + m)) * size := by simp only [List.length_append, hl, hxl, s3, Nat.add_mul]; omega
        rw [← e2, ← List.append_assoc]
        exact List.take_left
      · simp [World.setRow]
    · have holds : ∀ j v, xs[j]? = some v → w.cell? ((⟨g, o0, none⟩ : Addr).add j) = some v := fun j v hv => by
        have hj := (List.getElem?_eq_some_iff.1 hv).1
        have hn0 : 0 < n := Nat.pos_of_ne_zero fun e => by rw [hxl, e, Nat.zero_mul] at hj; omega
        obtain rfl := ho0 (by omega)
        have := hown.cells (g := g) rfl (k * size + j) v (by rw [List.getElem?_append_right (by omega), hl]; rw [show k * size + j - k * size = j by omega]; exact hv)
        rw [Addr.add_lit] at this ⊢
        rwa [Nat.zero_add] at this
      have hm2 : n + m ≤ 9223372036854775807 := by simp only [maxLen] at h63; omega
      have hr := run_append_grow (P := P) w t ty e i z ht hi hz ⟨g, o0, none⟩ n cap xs (by rw [hsize]; exact hxl) holds ⟨b, o, none⟩ m cp news (by rw [hsize]; exact s3) hnews (by omega) (by omega) (growslice_fits (by omega) (by rw [hby]; exact hbytes))
      have hge := grownCap_ge w (n + m) cap e
      have hgm : grownCap w (n + m) cap e ≤ maxLen := grownCap_le_maxLen w (n + m) cap e h63
      have hlen : (xs ++ news).length = (n + m) * size := by rw [List.length_append, hxl, s3, Nat.add_mul]
      refine ⟨w.heap.size, 0, _, [], w.drew.alloc (.cells (xs.toArray ++ news.toArray ++ Builtin.zeroCells z.cells (grownCap w (n + m) cap e - (n + m))) e), ?_, by simp, hge, ⟨by rw [List.nil_append, Nat.zero_add]; exact hlen, .inr ⟨w.heap.size, _, _, rfl, hbase, heap_alloc_new w.drew _, by omega, by omega, ?_, ?_⟩⟩, ⟨rfl, rfl, rfl, by simp, fun q hq _ => ?_⟩, .inr rfl⟩
      · rw [Nat.zero_mul]; exact hr
      · simp only [Array.size_append, List.size_toArray, size_zeroCells, E.zs, hxl, s3, ← Nat.add_mul]
        congr 1
        omega
      · simp only [Array.toList_append, List.append_assoc, List.nil_append, Nat.zero_add]
        rw [← List.append_assoc, ← hlen]
        exact List.take_left
      · first | exact heap_alloc_old w.drew _ q hq | exact heap_alloc_old w.drew _ hq
/-- a queue: its value, and the row that is owned for it -/
abbrev quV (g k n cap size : Nat) : Value := .slice (some ⟨g, k * size, none⟩) n cap
abbrev quR (e size g k n cap : Nat) (cs : List Value) : Row := ⟨.slice (some ⟨g, 0, none⟩) (k + n) (k + cap), e, size, k + n, cs⟩
theorem wpList_append_q {P : Program} {W0 : World} {w : World} {L : List Row} {ops : Array Oper} {rest : List Oper} {o : Oper} {a : Act} {Q : Exit → Act → World → Prop} (hgd : o.guard = none) (s x : Operand) (t : TypeId)
    (ho : o.op = .call { callee := .builtin .append, args := #[s, x], argTypes := #[t, t] })
    {e size bytes : Nat} {z : Value} (E : Elem P t e size bytes z) {g o0 k n cap m : Nat} {u : Value} {ys xs news : List Value} (H : Held W0 w (quR e size g k n cap (ys ++ xs) :: L)) (hl : ys.length = k * size) (ho0 : 0 < cap → o0 = k * size) (hnc : n ≤ cap)
    (hs : a.eval s = .slice (some ⟨g, o0, none⟩) n cap) (hx : a.eval x = u) (hsl : Sl w size u m news) (h1 : ∀ u ∈ news, u.oneCell' = true) (hm : 0 < m)
    (h63 : n + m ≤ maxLen) (hbytes : (n + m) * bytes ≤ 140737488355328)
    (h : ∀ g' k' cap' ys' w', ys'.length = k' * size → n + m ≤ cap' → Held W0 w' (quR e size g' k' (n + m) cap' (ys' ++ (xs ++ news)) :: L) → wpList P ops Q rest (a.put o.dst (quV g' k' (n + m) cap' size)) w') : wpList P ops Q (o :: rest) a w := by
  refine wpList_plain hgd fun K hK => ?_
  obtain ⟨g', k', cap', ys', w', hr, h2, h3, h4, h5, h6⟩ := run_append_q (P := P) w W0.heap.size t o.type e z size bytes E g o0 k n cap m u ys xs news hl ho0 (H.own _ List.mem_cons_self) hnc hsl h1 hm h63 hbytes H.le
  unfold Oper.wp execOp
  simp only [ho, resolve, invoke, builtin, Sem.run_bind, Sem.run_pure, Result.andThen_ok, List.map_toArray, List.map_cons, List.map_nil, hs, hx, hr]
  refine hK _ _ (h g' k' cap' ys' w' h2 h3 ?_)
  have hr0 := H.own _ List.mem_cons_self
  refine ⟨H.bel.grown h5 H.le (fun q hq => ?_), fun r' hr' => ?_, List.Pairwise.cons (fun r' hr' q hq1 hq2 => ?_) H.apart.of_cons⟩
  · exact (hr0.lt q (by simpa [Value.ownBlock] using hq)).1
  · rcases List.mem_cons.1 hr' with rfl | hr'
    · exact h4
    · refine (H.own r' (List.mem_cons_of_mem _ hr')).kept h5 ?_
      cases hb : r'.v.ownBlock with
      | none => exact .inl rfl
      | some q =>
        refine .inr fun e => ?_
        exact (List.pairwise_cons.1 H.apart).1 r' hr' q e.symm hb
  · have k1 := ((H.own r' (List.mem_cons_of_mem _ hr')).lt q hq2).2
    simp only [Value.ownBlock, Option.some.injEq] at hq1
    rcases h6 with h6 | h6
    · exact (List.pairwise_cons.1 H.apart).1 r' hr' q (by rw [← hq1, h6]; rfl) hq2
    · omega
/-- the first one taken off (Go leaves the address where it is if no room is left) -/
theorem run_tail_q {P : Program} {t e : TypeId} {size : Nat} (ht : P.underlying t = some (.slice e)) (hi : (P.info? e).map (fun i => i.size) = some size) (g k n cap : Nat) (hn : 0 < n) (hc : n ≤ cap) :
    ∃ o', (∀ w, (Instr.slice t (quV g k n cap size) (some (.int .i64 1)) none none).run P w = .ok (.slice (some ⟨g, o', none⟩) (n - 1) (cap - 1)) w) ∧ (0 < cap - 1 → o' = (k + 1) * size) := by
  obtain ⟨i, h1, h2⟩ := Option.map_eq_some_iff.1 hi
  have e1 : (1 : Nat) ≤ n := hn
  have e2 : (1 : Int) ≤ (n : Int) := by omega
  by_cases hcap : cap = 1
  · refine ⟨k * size, fun w => ?_, fun h => by omega⟩
    simp [Instr.slice, run_underlying ht, Instr.sliceBounds, Instr.sliceBound, asIntOf, sizeOf, typeInfo, h1, h2, Addr.add_lit, hc, e1, e2, hcap]
  · refine ⟨(k + 1) * size, fun w => ?_, fun _ => rfl⟩
    simp [Instr.slice, run_underlying ht, Instr.sliceBounds, Instr.sliceBound, asIntOf, sizeOf, typeInfo, h1, h2, Addr.add_lit, Nat.add_mul, hc, e1, e2, hcap]
theorem run_head_q {P : Program} {t e : TypeId} {size : Nat} (ht : P.underlying t = some (.slice e)) (hi : (P.info? e).map (fun i => i.size) = some size) (g k n cap : Nat) (hn : 0 < n) (w : World) :
    (Instr.indexAt t (quV g k n cap size) (.int .i64 0)).run P w = .ok (.pointer (some ⟨g, k * size, none⟩)) w := by
  have := idx_run (z := none) ht hi g (k * size) n cap 0 hn w
  simpa using this
theorem quR_pop {W0 w : World} {e size g k n cap : Nat} {ys xs : List Value} {L : List Row} (H : Held W0 w (quR e size g k n cap (ys ++ xs) :: L)) (hn : 0 < n) (hc : n ≤ cap) : Held W0 w (quR e size g (k + 1) (n - 1) (cap - 1) (ys ++ xs) :: L) := by
  have e1 : k + 1 + (n - 1) = k + n := by omega
  have e2 : k + 1 + (cap - 1) = k + cap := by omega
  rw [quR, e1, e2]; exact H
end
section
open Go.ChangeShapes Go.WideShapes Go.ChangeAt Go.RowKit
def numB (x : Int) : Bool := btw x (-1000000000) 1000000000
def numsB (xs : List Int) : Bool := allTo (fun k => numB (nth xs k)) xs.length
def coefB (c : List Int) : Bool := btw c.length 1 8 && numsB c
def fineB (xs : List Int) : Bool := numsB xs && decide ((xs.length : Int) ≤ 40)
end
section
open Go.ChangeShapes Go.WideShapes Go.ChangeAt Go.RowKit
def dotTo (l c : List Int) (m : Nat) : Nat → Int := iter (fun i n => wrap64 (n + wrap64 (nth c i * nth l (m - 1 - i)))) 0
theorem dotTo_succ (l c : List Int) (m k : Nat) : dotTo l c m (k + 1) = wrap64 (dotTo l c m k + wrap64 (nth c k * nth l (m - 1 - k))) := rfl
theorem dotTo_take (l c : List Int) (m : Nat) : ∀ k, dotTo (l.take m) c m k = dotTo l c m k ∨ m = 0 := by
  intro k
  by_cases hm : m = 0
  · exact .inr hm
  · left
    induction k with
    | zero => rfl
    | succ k ih => rw [dotTo_succ, dotTo_succ, ih, nth_take (by omega)]
def recB (l c : List Int) : Bool := allTo (fun j => dotTo l c (c.length + j) c.length == nth l (c.length + j)) (l.length - c.length)
def isRecB (l c : List Int) : Bool := btw c.length 1 8 && numsB c && decide ((l.length : Int) ≤ 40) && numsB l && recB l c
theorem coefB_ge {c : List Int} (h : coefB c = true) : 1 ≤ c.length := by
  simp [coefB, btw] at h
  omega
end
section
open Go.ChangeShapes Go.WideShapes Go.ChangeAt Go.RowKit
def nxt (c out : List Int) : Int := dotTo out c out.length c.length
def extTo (l c : List Int) : Nat → List Int := iter (fun _ out => out ++ [nxt c out]) l
theorem extTo_succ (l c : List Int) (k : Nat) : extTo l c (k + 1) = extTo l c k ++ [nxt c (extTo l c k)] := rfl
theorem extTo_len (l c : List Int) (k : Nat) : (extTo l c k).length = l.length + k := by
  induction k with
  | zero => rfl
  | succ k ih => rw [extTo_succ, List.length_append, ih]; rfl
def extOK (l c : List Int) (k : Nat) : Bool := numB (nxt c (extTo l c k))
def preB (l c : List Int) (n : Int) : Bool := coefB c && decide (l.length ≤ 40) && numsB l && decide (c.length ≤ l.length) && btw n 0 20 && decide ((l.length : Int) + n ≤ 40)
def extV (l c : List Int) (n : Int) : Option (List Int) := if preB l c n && allTo (extOK l c) n.toNat then some (extTo l c n.toNat) else none
theorem extV_pre {l c : List Int} {n : Int} (h : preB l c n = false) : extV l c n = none := by simp [extV, h]
theorem extV_no {l c : List Int} {n : Int} {k : Nat} (hk : k < n.toNat) (h : extOK l c k = false) : extV l c n = none := by simp [extV, allTo_false hk h]
theorem extV_yes {l c : List Int} {n : Int} (h : preB l c n = true) (h2 : allTo (extOK l c) n.toNat = true) : extV l c n = some (extTo l c n.toNat) := by simp [extV, h, h2]
theorem numsB_snoc (xs : List Int) (x : Int) (h : numsB xs = true) : numsB (xs ++ [x]) = numB x := by
  have e : ∀ k, k < xs.length → nth (xs ++ [x]) k = nth xs k := fun k hk => by simp [nth, List.getD, List.getElem?_append_left hk]
  have e2 : nth (xs ++ [x]) xs.length = x := by simp [nth]
  have h' := allTo_true.1 h
  cases hx : numB x with
  | true =>
    unfold numsB
    rw [allTo_true]
    intro k hk
    by_cases hk2 : k < xs.length
    · rw [e k hk2]; exact h' k hk2
    · have : k = xs.length := by simp at hk; omega
      rw [this, e2, hx]
  | false => exact allTo_false (k := xs.length) (by simp) (by rw [e2, hx])
/-- the pair that both return -/
def ExtPost (w : World) (r : Option (List Int)) (e : Ending) (w' : World) : Prop :=
  ∃ v', e = .returned (.tuple #[v', .bool r.isSome]) ∧ (∃ x, w' = ext w x) ∧ OwnI w' w.heap.size v' (r.getD [])
theorem ExtPost.fail {w w' : World} {r : Option (List Int)} (h : r = none) (hx : ∃ x, w' = ext w x) : ExtPost w r (.returned (.tuple #[.slice none 0 0, .bool false])) w' := by
  subst h; exact ⟨_, rfl, hx, World.ownsRow_nil _ _ _ _⟩
theorem Held.whole {W0 w : World} {L : List Row} {v : Value} {xs : List Int} (H : Held W0 w (⟨v, 3, 1, 0 + xs.length, [] ++ xs.map iv⟩ :: L)) : Held W0 w (rowI v xs :: L) := by
  rw [Nat.zero_add, List.nil_append] at H; exact H
theorem copyInts_any (xs : List Int) (v : Value) (w : World) (h : IntsAt w v xs) (hs : xs.length ≤ 1099511627776) :
    Calls Try.prog 77 #[v] w fun e w' => ∃ v', e = .returned v' ∧ Held w w' [rowI v' xs] := by
  go_enter Try.func77, Try.ntmps77
  go_wp2_with (first | (at_builtin; refine wpList_append_held rfl _ _ _ rfl elemInt ((Held.start w).to (by repeat (first | exact ext_refl _ | (with_reducible assumption) | refine ext_ext' ?_ _ | refine ext_alloc' ?_ _ | refine ext_drew' ?_))).nilI rfl rfl (by exact h) (ints_oneCell _ _) (by unfold maxLen; omega) (by omega) ?_; intro v' w' H))
  go_ret
  exact ⟨_, rfl, H.whole⟩
theorem preB_mk {l c : List Int} {n : Int} (h1 : coefB c = true) (h2 : l.length ≤ 40) (h3 : numsB l = true) (h4 : c.length ≤ l.length) (h5 : btw n 0 20 = true) (h6 : (l.length : Int) + n ≤ 40) : preB l c n = true := by
  simp [preB, h1, h2, h3, h4, h5, h6]
theorem ExtPost.got {w w' : World} {r : Option (List Int)} {v : Value} {xs : List Int} (h : r = Option.some xs) (H : Held w w' [rowI v xs]) : ExtPost w r (.returned (.tuple #[v, .bool true])) w' := by
  subst h; exact ⟨_, rfl, ext_of H.bel, H.own _ List.mem_cons_self⟩
theorem ExtPost.no {w w' : World} {r : Option (List Int)} {L : List Row} (h : r = Option.none) (H : Held w w' L) : ExtPost w r (.returned (.tuple #[.slice none 0 0, .bool false])) w' := ExtPost.fail h (ext_of H.bel)
theorem extV_all {l c : List Int} {m k : Nat} (h : preB l c m = true) (hk : k = m) (h2 : allTo (extOK l c) k = true) : extV l c m = Option.some (extTo l c k) := by
  subst hk
  have e : (k : Int).toNat = k := by simp
  have := extV_yes h (by rw [e]; exact h2)
  rw [e] at this; exact this
theorem extV_cut {l c : List Int} {m k : Nat} (hk : k < m) (h2 : extOK l c k = false) : extV l c m = Option.none := extV_no (by simp; omega) h2
theorem ExtPost.failE {w w' : World} {r : Option (List Int)} {v : Value} {L : List Row} (h : r = Option.none) (H : Held w w' (⟨v, 3, 1, 0, []⟩ :: L)) : ExtPost w r (.returned (.tuple #[v, .bool false])) w' := by
  subst h; exact ⟨_, rfl, ext_of H.bel, H.own _ List.mem_cons_self⟩
theorem coefB_mk {c : List Int} (h1 : fineB c = true) (h2 : c.length ≠ 0) (h3 : c.length ≤ 8) : coefB c = true := by
  simp only [fineB, Bool.and_eq_true] at h1
  simp only [coefB, h1.1, Bool.and_true]
  exact btw_iff.2 ⟨by omega, by omega⟩
theorem fineB_coef {c : List Int} (h : coefB c = true) : fineB c = true ∧ c.length ≠ 0 ∧ c.length ≤ 8 := by
  simp only [coefB, Bool.and_eq_true, btw_iff] at h
  exact ⟨by simp [fineB, h.2]; omega, by omega, by omega⟩
theorem extV_len (l c : List Int) (n : Int) : ((extV l c n).getD []).length ≤ 40 := by
  cases h : extV l c n with
  | none => simp
  | some xs =>
    simp only [Option.getD_some]
    unfold extV at h
    split at h
    · rename_i hh
      simp only [Bool.and_eq_true] at hh
      have hp := hh.1
      simp only [preB, Bool.and_eq_true, decide_eq_true_eq, btw_iff] at hp
      cases h
      rw [extTo_len]
      omega
    · cases h
end
section
open Go.ChangeShapes Go.WideShapes Go.ChangeAt Go.RowKit
theorem markRegion_held {W0 : World} {L : List Row} (wd : Int) (xs : List Int) (v : Value) (k : Int) (w : World) (H : Held W0 w (rowI v xs :: L)) (h0 : 0 ≤ k) (h1 : k ≤ 1099511627776) (hs : xs.length ≤ 1099511627776) :
    Calls Try.prog 12 #[.agg #[.int .i64 wd, v], .int .i64 k] w fun e w' => e = .returned (.int .i64 (k + xs.length)) ∧ Held W0 w' (rowI v (marks k xs.length) :: L) := by
  obtain ⟨a, c, rfl⟩ := own_slice (show w.ownsRow W0.heap.size 3 1 v xs.length (xs.map iv) from H.own _ List.mem_cons_self)
  go_enter Try.func12, Try.ntmps12
  go_wp2_with (first | (go_at_call 52; refine (markIntS_held _ _ _ _ (H.to (by repeat (first | exact ext_refl _ | (with_reducible assumption) | refine ext_ext' ?_ _ | refine ext_alloc' ?_ _ | refine ext_drew' ?_))) h0 h1 hs).mono ?_; rintro e w' ⟨rfl, H⟩))
  go_ret
  exact ⟨rfl, H⟩
end
section
open Go.ChangeShapes Go.WideShapes Go.ChangeAt Go.RowKit

end
section
open Go.ChangeShapes Go.WideShapes Go.ChangeAt Go.RowKit
def marksC (k : Int) (n : Nat) : List (Int × Int) := (List.range n).map fun i : Nat => (k + 2 * (i : Int), k + 2 * (i : Int) + 1)
theorem marksC_len (k : Int) (n : Nat) : (marksC k n).length = n := by simp [marksC]
theorem marksC_x (k : Int) (n i : Nat) (h : i < n) : cx (marksC k n) i = k + 2 * i := by simp [marksC, cx, List.getD, h]
theorem marksC_y (k : Int) (n i : Nat) (h : i < n) : cy (marksC k n) i = k + 2 * i + 1 := by simp [marksC, cy, List.getD, h]
def mixC (cs : List (Int × Int)) (k : Int) (j : Nat) : List Value := ((marksC k j) ++ cs.drop j).flatMap cv
theorem mixC_zero (cs : List (Int × Int)) (k : Int) : mixC cs k 0 = cs.flatMap cv := by simp [mixC, marksC]
theorem mixC_all (cs : List (Int × Int)) (k : Int) : mixC cs k cs.length = (marksC k cs.length).flatMap cv := by simp [mixC]
theorem mixC_step (cs : List (Int × Int)) (k : Int) (j : Nat) (h : j < cs.length) : ((mixC cs k j).set (j * 2) (.int .i64 (k + 2 * j))).set (j * 2 + 1) (.int .i64 (k + 2 * j + 1)) = mixC cs k (j + 1) := by
  have e1 : ((marksC k j).flatMap cv).length = j * 2 := by rw [flat_len, marksC_len]
  have e2 : marksC k (j + 1) = marksC k j ++ [(k + 2 * (j : Int), k + 2 * (j : Int) + 1)] := by simp [marksC, List.range_succ]
  obtain ⟨c, e3⟩ : ∃ c, cs.drop j = c :: cs.drop (j + 1) := ⟨_, List.drop_eq_getElem_cons h⟩
  rw [mixC, mixC, e2, e3, List.flatMap_append, List.set_append_right _ _ (by omega), e1, Nat.sub_self, List.set_append_right _ _ (by omega), e1, show j * 2 + 1 - j * 2 = 1 by omega]
  generalize cs.drop (j + 1) = l
  simp [cv, iv]
theorem mixC_cell (cs : List (Int × Int)) (k : Int) (j : Nat) (h : j < cs.length) : ∃ u u', (mixC cs k j)[j * 2]? = some u ∧ ((mixC cs k j).set (j * 2) (.int .i64 (k + 2 * j)))[j * 2 + 1]? = some u' := by
  have hl : (mixC cs k j).length = cs.length * 2 := by rw [mixC, flat_len]; simp [marksC]; omega
  exact ⟨_, _, List.getElem?_eq_getElem (by omega), List.getElem?_eq_getElem (by rw [List.length_set]; omega)⟩
theorem Held.takeC {W0 w w' : World} {L : List Row} {v : Value} {cs : List (Int × Int)} (H : Held W0 w L) (K : Held w w' [rowC v cs]) : Held W0 w' (rowC v cs :: L) := H.join K
end
end Go.Proofs.Ytchcepihmphdmaa
