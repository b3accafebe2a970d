/- Part 1 of a proof: base, sl, held, ints, copyints, marks, slsl, between, square, slsl0, szints, copyslsl, numbers, dots, hold2, extend, tabs. -/
import Derived.Test.YtchcepihmphdmaaDoorRows
import Derived.WalkKit
import Derived.ProofKit
import Derived.OpenShut
import Derived.BigQuiet
import Derived.Lib.Hide
import Derived.Deep.QuietTactic
import Derived.Outline
import Derived.OrdersHeld
import Derived.Laws.AppendOwnNone
import Derived.Deep.AppendLies
namespace Go.Proofs.YtchcepihmphdmaaDoor
set_option linter.unusedVariables false
section
open Go.ChangeShapes Go.WideShapes Go.ChangeAt Go.RowKit
/-- New blocks behind those of a world, and another count of draws. -/
structure Ext where
  bs : Array Obj
  d : Nat
instance : Nonempty Ext := ⟨⟨#[], 0⟩⟩
def ext (w : World) (x : Ext) : World := { w with heap := w.heap ++ x.bs, drawn := x.d }
/-- block n lies in w -/
class Old (w : World) (n : Nat) : Prop where
  lt : n < w.heap.size
/-- w has n blocks -/
class SizeIs (w : World) (n : Nat) : Prop where
  eq : w.heap.size = n
section
variable (w : World) (x y : Ext)
theorem size_ext : (ext w x).heap.size = w.heap.size + x.bs.size := by simp [ext]
theorem ext_ext : ext (ext w x) y = ext w ⟨x.bs ++ y.bs, y.d⟩ := by simp [ext, Array.append_assoc]
@[go_sem] theorem drew_ext : (ext w x).drew = ext w ⟨x.bs, x.d + 1⟩ := rfl
@[go_sem] theorem drawn_ext : ({ ext w x with drawn := (ext w x).drawn + 1 } : World) = ext w ⟨x.bs, x.d + 1⟩ := rfl
@[go_sem] theorem tape_ext : (ext w x).tape = w.tape := rfl
@[go_sem] theorem os_ext : (ext w x).os = w.os := rfl
@[go_sem] theorem output_ext : (ext w x).output = w.output := rfl
theorem lt_ext {n : Nat} (h : n < w.heap.size) : n < (ext w x).heap.size := by rw [size_ext]; omega
theorem lt_alloc {n : Nat} (o : Obj) (h : n < w.heap.size) : n < (w.alloc o).heap.size := by rw [World.size_alloc]; omega
instance old_ext {n : Nat} [h : Old w n] : Old (ext w x) n := ⟨lt_ext w x h.lt⟩
instance old_alloc {n : Nat} (o : Obj) [h : Old w n] : Old (w.alloc o) n := ⟨lt_alloc w o h.lt⟩
instance old_new (o : Obj) {n : Nat} [h : SizeIs w n] : Old (w.alloc o) n := ⟨by rw [World.size_alloc, h.eq]; omega⟩
instance size_new (o : Obj) {n : Nat} [h : SizeIs w n] : SizeIs (w.alloc o) (n + 1) := ⟨by rw [World.size_alloc, h.eq]⟩
instance size_set {n : Nat} (a : Addr) (v : Value) [h : SizeIs w n] : SizeIs (w.setCell a v) n := ⟨by rw [World.size_setCell, h.eq]⟩
instance size_drew {n : Nat} [h : SizeIs w n] : SizeIs w.drew n := ⟨h.eq⟩
instance (priority := low) size_self : SizeIs w w.heap.size := ⟨rfl⟩
instance old_drew {n : Nat} [h : Old w n] : Old w.drew n := ⟨h.lt⟩
instance old_set {n : Nat} (a : Addr) (v : Value) [h : Old w n] : Old (w.setCell a v) n := ⟨by rw [World.size_setCell]; exact h.lt⟩
theorem heap_ext {n : Nat} (h : n < w.heap.size) : (ext w x).heap[n]? = w.heap[n]? := by
  simp [ext, Array.getElem?_append_left h]
@[go_sem] theorem cell?_ext {n i : Nat} [h : Old w n] : (ext w x).cell? ⟨n, i, none⟩ = w.cell? ⟨n, i, none⟩ := by
  simp only [World.cell?, heap_ext w x h.lt]
@[go_sem] theorem cell?_old {n i : Nat} (o : Obj) [h : Old w n] : (w.alloc o).cell? ⟨n, i, none⟩ = w.cell? ⟨n, i, none⟩ := World.cell?_alloc_past o n i h.lt
@[go_sem] theorem frozen?_old {n i : Nat} (o : Obj) [h : Old w n] : (w.alloc o).frozen? ⟨n, i, none⟩ = w.frozen? ⟨n, i, none⟩ := World.frozen?_alloc_past o n i h.lt
@[go_sem] theorem setCell_old {n i : Nat} (o : Obj) (v : Value) [h : Old w n] : (w.alloc o).setCell ⟨n, i, none⟩ v = (w.setCell ⟨n, i, none⟩ v).alloc o := World.setCell_alloc_past o n i v h.lt
@[go_sem] theorem frozen?_ext {n i : Nat} [h : Old w n] : (ext w x).frozen? ⟨n, i, none⟩ = w.frozen? ⟨n, i, none⟩ := by
  simp only [World.frozen?, heap_ext w x h.lt]
@[go_sem] theorem shape?_ext {n : Nat} [h : Old w n] : (ext w x).shape? n = w.shape? n := by
  simp only [World.shape?, heap_ext w x h.lt]
@[go_sem] theorem setCell_ext {n i : Nat} (v : Value) [ho : Old w n] : (ext w x).setCell ⟨n, i, none⟩ v = ext (w.setCell ⟨n, i, none⟩ v) x := by
  have h := ho.lt
  simp only [World.setCell, ext]
  congr 1
  apply Array.ext_getElem?
  intro k
  simp only [Array.getElem?_modify, Array.getElem?_append, Array.size_modify]
  by_cases hk : n = k
  · subst hk; simp [h]
  · simp [hk]
end
theorem ext_zero (w : World) : w = ext w ⟨#[], w.drawn⟩ := by simp [ext]
theorem ext_alloc (w : World) (o : Obj) : ∃ x, w.alloc o = ext w x := ⟨⟨#[o], w.drawn⟩, by simp only [ext, Array.append_singleton]; rfl⟩
theorem Below_ext (w : World) (x : Ext) : Below w.heap.size w (ext w x) := ⟨rfl, rfl, rfl, by simp [size_ext], fun k hk => heap_ext w x hk⟩
theorem ext_of {w w' : World} (h : Below w.heap.size w w') : ∃ x, w' = ext w x := by
  refine ⟨⟨w'.heap.extract w.heap.size w'.heap.size, w'.drawn⟩, ?_⟩
  obtain ⟨h1, h2, h3, h4, h5⟩ := h
  cases w'
  simp only [ext] at *
  subst h1; subst h2; subst h3
  congr 1
  apply Array.ext_getElem?
  intro k
  rw [Array.getElem?_append]
  split
  · exact h5 k (by assumption)
  · rename_i hk
    rw [Array.getElem?_extract]
    by_cases hk2 : k < Array.size (by assumption : Array Obj)
    · rw [if_pos (by omega)]
      congr 1
      omega
    · rw [if_neg (by omega)]
      simp
      omega
theorem Calls_ext_of {P : Program} {f : FuncId} {args : Array Value} {w : World} {x : Ext} {v : Value}
    (h : Calls P f args (ext w x) fun e w' => e = .returned v ∧ ∃ y, w' = ext (ext w x) y) : Calls P f args (ext w x) fun e w'' => e = .returned v ∧ ∃ y, w'' = ext w y :=
  h.mono fun _ _ ⟨he, m, hm⟩ => ⟨he, ⟨x.bs ++ m.bs, m.d⟩, by rw [hm, ext_ext]⟩
theorem wp_region_ext_lit {P : Program} {id : Nat} {Q : Exit → Act → World → Prop} {a : Act} {w : World} {l : List Oper} (hm : P.follows .mixedOrders = true) (hB : Region.lexB .any l.toArray = true)
    (h : wpQuiet P l.toArray (fun w' => ∃ x, w' = ext w x) (fun a' => ∀ w', (∃ x, w' = ext w x) → Q .normal a' w') l a) : (Code.region id l.toArray true).wp P Q a w :=
  wp_region_quiet (C := fun w' => ∃ x, w' = ext w x) hm hB ⟨⟨#[], w.drawn + 1⟩, by simp [ext]⟩ (by simpa using h)
theorem bel_of_ext {w w' : World} (h : ∃ x, w' = ext w x) : Below w.heap.size w w' := by obtain ⟨x, rfl⟩ := h; exact Below_ext w x
theorem ext_trans {w w1 w2 : World} (h : ∃ x, w1 = ext w x) (k : ∃ x, w2 = ext w1 x) : ∃ x, w2 = ext w x := by
  obtain ⟨x, rfl⟩ := h; obtain ⟨y, rfl⟩ := k; exact ⟨_, ext_ext w x y⟩
theorem ext_refl (w : World) : ∃ x, w = ext w x := ⟨_, ext_zero w⟩
theorem ext_alloc' {w w1 : World} (h : ∃ x, w1 = ext w x) (o : Obj) : ∃ x, w1.alloc o = ext w x := ext_trans h (ext_alloc w1 o)
theorem ext_ext' {w w1 : World} (h : ∃ x, w1 = ext w x) (y : Ext) : ∃ x, ext w1 y = ext w x := ext_trans h ⟨y, rfl⟩
theorem ext_drew' {w w1 : World} (h : ∃ x, w1 = ext w x) : ∃ x, w1.drew = ext w x := ext_trans h ⟨⟨#[], w1.drawn + 1⟩, by simp only [ext, Array.append_empty]; rfl⟩
theorem ret_bool {a b : Bool} (h : a = b) : Ending.returned (.bool a) = .returned (.bool b) := by rw [h]
theorem ret_int {a b : Int} (h : a = b) : Ending.returned (.int .i64 a) = .returned (.int .i64 b) := by rw [h]
theorem bool_not {b : Bool} (h : (!b) = true) : b = false := by simpa using h
theorem bool_not' {b : Bool} (h : (!b) = false) : b = true := by simpa using h
theorem int_succ (k : Nat) : Value.int .i64 ((k : Int) + 1) = .int .i64 ((k + 1 : Nat) : Int) := by simp
theorem Calls_ext_of2 {P : Program} {f : FuncId} {args : Array Value} {w : World} {b c : Array Obj} {d : Nat} {v : Value}
    (h : Calls P f args (ext w ⟨b ++ c, d⟩) fun e w' => e = .returned v ∧ ∃ y, w' = ext (ext w ⟨b ++ c, d⟩) y) : Calls P f args (ext w ⟨b ++ c, d⟩) fun e w'' => e = .returned v ∧ ∃ y : Ext, w'' = ext w ⟨b ++ y.bs, y.d⟩ :=
  h.mono fun _ _ ⟨he, m, hm⟩ => ⟨he, ⟨c ++ m.bs, m.d⟩, by rw [hm, ext_ext]; simp only [Array.append_assoc]⟩
theorem own_slice {w : World} {B e sz : Nat} {v : Value} {n : Nat} {xs : List Value} (h : w.ownsRow B e sz v n xs) : ∃ a cap, v = .slice a n cap := by
  rcases h.2 with ⟨rfl, rfl⟩ | ⟨g, cap, cur, rfl, _⟩
  · exact ⟨_, _, rfl⟩
  · exact ⟨_, _, rfl⟩
theorem own_move {W W' : World} {x : Ext} {B e sz : Nat} {v : Value} {n : Nat} {xs : List Value} (h : (ext W x).ownsRow B e sz v n xs) (hs : W'.heap.size = W.heap.size) (hB : W.heap.size ≤ B) : (ext W' x).ownsRow B e sz v n xs := by
  refine ⟨h.1, ?_⟩
  rcases h.2 with h2 | ⟨g, cap, cur, h1, h2, h3, h4⟩
  · exact .inl h2
  · refine .inr ⟨g, cap, cur, h1, h2, ?_, h4⟩
    rw [← h3]
    simp only [ext, Array.getElem?_append, hs]
    rw [if_neg (by omega), if_neg (by omega)]
theorem own_base {w : World} {B B' e sz : Nat} {v : Value} {n : Nat} {xs : List Value} (h : w.ownsRow B e sz v n xs) (hB : B' ≤ B) : w.ownsRow B' e sz v n xs := by
  refine ⟨h.1, ?_⟩
  rcases h.2 with h2 | ⟨g, cap, cur, h1, h2, h3⟩
  · exact .inl h2
  · exact .inr ⟨g, cap, cur, h1, Nat.le_trans hB h2, h3⟩
theorem wp_region_heldE {P : Program} {id : Nat} {Q : Exit → Act → World → Prop} {a : Act} {w : World} {ops : Array Oper} (hm : P.follows .mixedOrders = true)
    (h : wpAnyH P .any ops Q (fun w' => ∃ x, w' = ext w x) ops.size (Array.replicate ops.size false) a (ext w ⟨#[], w.drawn + 1⟩)) : (Code.region id ops true).wp P Q a w :=
  wp_region_held hm (by simpa [ext] using h)
theorem takeE {P : Program} {ops : Array Oper} {Q : Exit → Act → World → Prop} {W : World} {i : Nat} {oi : Oper} {v : Value} {fuel : Nat} {listed : Array Bool} {a : Act} {w : World} (hi : ops[i]? = some oi)
    (hs : Region.noSelect ops = true) (hf : Region.free .any ops listed i = true) (hr : (Region.ready .any ops listed).contains i = true)
    (hQ : ∀ c a w, Q (.panic c) (a.put oi.dst v) w → Q (.panic c) a w) (hw : Region.wanted oi (yielded ops a.tmps) = true) (hy : ∀ x, (execOp a.eval oi).run P (ext W x) = .ok (.value v) (ext W x)) (hS : ∃ x, w = ext W x)
    (h : wpAnyH P .any ops Q (fun w' => ∃ x, w' = ext W x) fuel (listed.setIfInBounds i true) (a.put oi.dst v) w) : wpAnyH P .any ops Q (fun w' => ∃ x, w' = ext W x) (fuel + 1) listed a w :=
  wpAnyH_take hi hs hf hr hQ (.inl ⟨hw, by rintro _ ⟨x, rfl⟩; exact hy x⟩) hS h
theorem nextE {P : Program} {ops : Array Oper} {Q : Exit → Act → World → Prop} {S : World → Prop} {i : Nat} {o : Oper} {fuel : Nat} {listed : Array Bool} {a : Act} {w : World} (ho : ops[i]? = some o)
    (hr : Region.ready .any ops listed = [i]) (hw : Region.wanted o (yielded ops a.tmps) = true)
    (h : ∀ K' : Act → World → Prop, Hid (∀ a w, S w → wpAnyH P .any ops Q S fuel (listed.setIfInBounds i true) a w → K' a w) → Oper.wp P o a w K' Q) : wpAnyH P .any ops Q S (fuel + 1) listed a w :=
  wpAnyH_all hr (by simp) fun j hj => by
    obtain rfl : j = i := by simpa using hj
    exact wpOp_step ho (fun K' hK => by rw [if_pos hw]; exact h K' (fun a w hS hW => hK a w ⟨hS, hW⟩))
end
section
open Go.ChangeShapes Go.WideShapes Go.ChangeAt Go.RowKit
/-- the k-th number of a list (0 behind its end); kept closed to simp -/
def nth (xs : List Int) (k : Nat) : Int := xs.getD k 0
def iter {α : Type} (f : Nat → α → α) (a : α) : Nat → α
  | 0 => a
  | n + 1 => f n (iter f a n)
def allTo (p : Nat → Bool) : Nat → Bool
  | 0 => true
  | n + 1 => allTo p n && p n
theorem allTo_false {p : Nat → Bool} {k n : Nat} (h : k < n) (hk : p k = false) : allTo p n = false := by
  induction n with
  | zero => omega
  | succ n ih =>
    simp only [allTo]
    by_cases e : k = n
    · subst e; simp [hk]
    · rw [ih (by omega)]; rfl
theorem allTo_true {p : Nat → Bool} {n : Nat} : allTo p n = true ↔ ∀ k, k < n → p k = true := by
  induction n with
  | zero => simp [allTo]
  | succ n ih =>
    simp only [allTo, Bool.and_eq_true, ih]
    constructor
    · rintro ⟨h1, h2⟩ k hk
      by_cases e : k = n
      · subst e; exact h2
      · exact h1 k (by omega)
    · intro h
      exact ⟨fun k hk => h k (by omega), h n (by omega)⟩
theorem allTo_succ {p : Nat → Bool} {k : Nat} (h : allTo p k = true) (hk : p k = true) : allTo p (k + 1) = true := by simp [allTo, h, hk]
/-- v is a slice of n elements of sz cells each, which hold cs -/
def Sl (w : World) (sz : Nat) (v : Value) (n : Nat) (cs : List Value) : Prop :=
  ∃ a b o cap, v = .slice a n cap ∧ n ≤ cap ∧ cap ≤ maxLen ∧ cs.length = n * sz ∧ (0 < n → a = some ⟨b, o, none⟩ ∧ b < w.heap.size) ∧ ∀ i, i < cs.length → w.cell? ⟨b, o + i, none⟩ = cs[i]?
theorem Sl.mono {w w' : World} {sz : Nat} {v : Value} {n : Nat} {cs : List Value} (h : Sl w sz v n cs) (hb : Below w.heap.size w w') : Sl w' sz v n cs := by
  obtain ⟨a, b, o, cap, rfl, h1, h2, h3, h4, h5⟩ := h
  refine ⟨a, b, o, cap, rfl, h1, h2, h3, fun hn => ⟨(h4 hn).1, Nat.lt_of_lt_of_le (h4 hn).2 hb.size⟩, fun i hi => ?_⟩
  have hn : 0 < n := by
    rcases Nat.eq_zero_or_pos n with e | e
    · subst e; simp at h3; simp [h3] at hi
    · exact e
  rw [← h5 i hi]
  exact hb.cell (p := ⟨b, o + i, none⟩) (h4 hn).2
theorem Sl.ext {w : World} {sz : Nat} {v : Value} {n : Nat} {cs : List Value} (h : Sl w sz v n cs) (x : Ext) : Sl (ext w x) sz v n cs := h.mono (Below_ext w x)
theorem Sl.alloc {w : World} {sz : Nat} {v : Value} {n : Nat} {cs : List Value} (h : Sl w sz v n cs) (o : Obj) : Sl (w.alloc o) sz v n cs :=
  h.mono ((Below.refl _ _).alloc (Nat.le_refl _) o)
theorem Sl_own {w : World} {base e sz : Nat} {v : Value} {n : Nat} {cs : List Value} (h : w.ownsRow base e sz v n cs) : Sl w sz v n cs := by
  obtain ⟨h1, h2⟩ := h
  rcases h2 with ⟨rfl, rfl⟩ | ⟨g, cap, cur, rfl, hb, hg, hnc, hcm, hcs, htake⟩
  · exact ⟨none, 0, 0, 0, rfl, Nat.le_refl _, by simp [maxLen], h1, fun h => absurd h (by omega), fun i hi => by simp at h1; simp [h1] at hi⟩
  · refine ⟨_, g, 0, cap, rfl, hnc, hcm, h1, fun _ => ⟨rfl, (Array.getElem?_eq_some_iff.1 hg).1⟩, fun i hi => ?_⟩
    rw [Nat.zero_add, cell_of_row w g i cur e (0, 0) hg, ← htake, List.getElem?_take, if_pos (by omega)]
    simp
theorem idx_run {t e sz : Nat} {z : Option Value} {P : Program} (ht : P.underlying t = some (.slice e)) (hi : (P.info? e).map (fun i => i.size) = some sz)
    (b o n cap k : Nat) (h : k < n) (w : World) :
    (Instr.indexAt t (.slice (some ⟨b, o, none⟩) n cap) (.int .i64 k)).run P w = .ok (.pointer (some ⟨b, o + k * sz, none⟩)) w := by
  obtain ⟨i, hi1, hi2⟩ := Option.map_eq_some_iff.1 hi
  subst hi2
  simp [Instr.indexAt, asIntOf, run_underlying ht, sizeOf, typeInfo, hi1, h, Addr.add]
theorem Sl.idx {w : World} {sz : Nat} {v : Value} {n : Nat} {cs : List Value} (h : Sl w sz v n cs) {t e : Nat} {P : Program} (ht : P.underlying t = some (.slice e)) (hi : (P.info? e).map (fun i => i.size) = some sz) :
    ∃ a b o cap, v = .slice a n cap ∧ n ≤ cap ∧ n ≤ 9223372036854775807 ∧ cap ≤ 9223372036854775807 ∧ ∀ k, k < n → Old w b ∧ (∀ w', (Instr.indexAt t (.slice a n cap) (.int .i64 k)).run P w' = .ok (.pointer (some ⟨b, o + k * sz, none⟩)) w') ∧
      ∀ j, j < sz → w.cell? ⟨b, o + k * sz + j, none⟩ = cs[k * sz + j]? := by
  obtain ⟨a, b, o, cap, rfl, h1, h2, h3, h4, h5⟩ := h
  unfold maxLen at h2
  refine ⟨a, b, o, cap, rfl, h1, by omega, by omega, fun k hk => ?_⟩
  obtain ⟨rfl, hb⟩ := h4 (by omega)
  refine ⟨⟨hb⟩, fun w' => idx_run (z := none) ht hi b o n cap k hk w', fun j hj => ?_⟩
  have : k * sz + j < n * sz := by
    have : (k + 1) * sz ≤ n * sz := Nat.mul_le_mul_right _ hk
    rw [Nat.add_mul] at this
    omega
  rw [Nat.add_assoc]
  exact h5 _ (by omega)
/-! ### numbers -/
def iv (n : Int) : Value := .int .i64 n
def IntsAt (w : World) (v : Value) (xs : List Int) : Prop := Sl w 1 v xs.length (xs.map iv)
theorem IntsAt.mono {w w' : World} {v : Value} {xs : List Int} (h : IntsAt w v xs) (hb : Below w.heap.size w w') : IntsAt w' v xs := Sl.mono h hb
theorem IntsAt.ext {w : World} {v : Value} {xs : List Int} (h : IntsAt w v xs) (x : Ext) : IntsAt (ext w x) v xs := Sl.ext h x
theorem IntsAt.alloc {w : World} {v : Value} {xs : List Int} (h : IntsAt w v xs) (o : Obj) : IntsAt (w.alloc o) v xs := Sl.alloc h o
theorem nth_get {xs : List Int} {k : Nat} (h : k < xs.length) : xs[k] = nth xs k := by simp [nth, h]
theorem getElem_of_nth {xs : List Int} {k : Nat} (h : k < xs.length) : (xs.map iv)[k]? = some (.int .i64 (nth xs k)) := by
  rw [← nth_get h]; simp [iv, h]
theorem Sl_of_cells {W : World} {sz : Nat} {ad : Addr} {len cap : Nat} {cs : List Value} (h1 : len ≤ cap) (h2 : cap ≤ maxLen) (h3 : cs.length = len * sz) (h0 : 0 < sz) (hc : ∀ i, i < cs.length → W.cell? (ad.add i) = cs[i]?) :
    Sl W sz (.slice (some ad) len cap) len cs := by
  by_cases hp : 0 < len
  · have hp' : 0 < cs.length := by rw [h3]; exact Nat.mul_pos hp h0
    obtain ⟨b, o, spot⟩ := ad
    have hs : spot = none := by
      have := hc 0 hp'
      rw [List.getElem?_eq_getElem hp'] at this
      simpa [Addr.add] using World.cell?_spot this
    subst hs
    refine ⟨_, b, o, cap, rfl, h1, h2, h3, fun _ => ⟨rfl, ?_⟩, fun i hi => ?_⟩
    · have := hc 0 hp'
      rw [List.getElem?_eq_getElem hp'] at this
      simp only [Addr.add, if_true] at this
      exact World.block_lt_of_cell? W ⟨b, o, none⟩ this
    · rw [← hc i hi, Go.WideShapes.add_plain]
  · obtain rfl : len = 0 := by omega
    exact ⟨_, 0, 0, cap, rfl, h1, h2, h3, fun h => absurd h hp, fun i hi => by simp at h3; simp [h3] at hi⟩
end
section
open Go.ChangeShapes Go.WideShapes Go.ChangeAt Go.RowKit
/-- one row: its value, the element's type, the cells of an element, the number of elements, the cells -/
structure Row where
  v : Value
  e : Nat
  sz : Nat
  n : Nat
  cs : List Value
/-- since W0 nothing old has changed; the rows L are the call's own, each in a block of its own -/
structure Held (W0 w : World) (L : List Row) : Prop where
  bel : Below W0.heap.size W0 w
  own : ∀ r ∈ L, w.ownsRow W0.heap.size r.e r.sz r.v r.n r.cs
  apart : L.Pairwise fun r r' => ∀ g, r.v.ownBlock = some g → r'.v.ownBlock ≠ some g
theorem Held.start (w : World) : Held w w [] := ⟨Below.refl _ _, (fun r h => by cases h), List.Pairwise.nil⟩
theorem Held.le {W0 w : World} {L : List Row} (H : Held W0 w L) : W0.heap.size ≤ w.heap.size := H.bel.size
theorem Held.grow {W0 w w' : World} {L : List Row} (H : Held W0 w L) (h : Below w.heap.size w w') : Held W0 w' L := by
  refine ⟨H.bel.trans (h.mono H.le), fun r hr => ?_, H.apart⟩
  have ho := H.own r hr
  refine ⟨ho.1, ?_⟩
  rcases ho.2 with h2 | ⟨g, cap, cur, h1, h2, h3, h4⟩
  · exact .inl h2
  · exact .inr ⟨g, cap, cur, h1, h2, by rw [h.block g (Array.getElem?_eq_some_iff.1 h3).1]; exact h3, h4⟩
theorem Held.ext {W0 w : World} {L : List Row} (H : Held W0 w L) (x : Ext) : Held W0 (ext w x) L := H.grow (Below_ext w x)
theorem Held.to {W0 w w' : World} {L : List Row} (H : Held W0 w L) (h : ∃ x, w' = Proofs.YtchcepihmphdmaaDoor.ext w x) : Held W0 w' L := H.grow (bel_of_ext h)
/-- a row that was made since w -/
theorem Held.push {W0 w w' : World} {L : List Row} {v : Value} {e sz n : Nat} {cs : List Value} (H : Held W0 w L) (h : Below w.heap.size w w') (ho : w'.ownsRow w.heap.size e sz v n cs) : Held W0 w' (⟨v, e, sz, n, cs⟩ :: L) := by
  have H' := H.grow h
  refine ⟨H'.bel, fun r hr => ?_, List.Pairwise.cons (fun r hr g hg hg' => ?_) H'.apart⟩
  · rcases List.mem_cons.1 hr with rfl | hr
    · exact own_base ho H.le
    · exact H'.own r hr
  · have h1 := (ho.lt g hg).1
    have h2 := ((H.own r hr).lt g hg').2
    omega
theorem Held.drop {W0 w : World} {L : List Row} {r : Row} (H : Held W0 w (r :: L)) : Held W0 w L :=
  ⟨H.bel, fun r' h => H.own r' (List.mem_cons_of_mem _ h), H.apart.of_cons⟩
theorem Held.sl {W0 w : World} {L : List Row} (H : Held W0 w L) {v : Value} {e sz n : Nat} {cs : List Value} (h : (⟨v, e, sz, n, cs⟩ : Row) ∈ L) : Sl w sz v n cs := Sl_own (H.own _ h)
theorem Held.old {W0 w : World} {L : List Row} (H : Held W0 w L) {v : Value} {sz n : Nat} {cs : List Value} (h : Sl W0 sz v n cs) : Sl w sz v n cs := h.mono H.bel
/-- the first row's cells have changed, nothing else -/
theorem Held.write {W0 w w' : World} {L : List Row} {r : Row} {cs : List Value} (H : Held W0 w (r :: L)) (hg : w.grownBy w' r.v.ownBlock) (ho : w'.ownsRow W0.heap.size r.e r.sz r.v r.n cs) : Held W0 w' (⟨r.v, r.e, r.sz, r.n, cs⟩ :: L) := by
  have hr0 := H.own r List.mem_cons_self
  refine ⟨H.bel.grown hg H.le (fun k hk => (hr0.lt k hk).1), fun r' hr' => ?_, ?_⟩
  · rcases List.mem_cons.1 hr' with rfl | hr'
    · exact ho
    · refine (H.own r' (List.mem_cons_of_mem _ hr')).kept hg ?_
      cases hb : r'.v.ownBlock with
      | none => exact .inl rfl
      | some g =>
        refine .inr fun e => ?_
        exact (List.pairwise_cons.1 H.apart).1 r' hr' g e.symm hb
  · exact List.Pairwise.cons (List.pairwise_cons.1 H.apart).1 H.apart.of_cons
theorem Held.swap {W0 w : World} {L : List Row} {r r' : Row} (H : Held W0 w (r :: r' :: L)) : Held W0 w (r' :: r :: L) := by
  refine ⟨H.bel, fun q hq => H.own q (by simp only [List.mem_cons] at hq ⊢; rcases hq with h | h | h <;> simp [h]), ?_⟩
  have h := H.apart
  rw [List.pairwise_cons, List.pairwise_cons] at h
  rw [List.pairwise_cons, List.pairwise_cons]
  refine ⟨fun q hq g hg hg' => ?_, fun q hq => h.1 q (List.mem_cons_of_mem _ hq), h.2.2⟩
  rcases List.mem_cons.1 hq with rfl | hq
  · exact h.1 r' List.mem_cons_self g hg' hg
  · exact h.2.1 q hq g hg hg'
/-- any row to the front -/
theorem Held.front {W0 w : World} {L L' : List Row} (H : Held W0 w L) (p : L.Perm L') : Held W0 w L' := by
  refine ⟨H.bel, fun q hq => H.own q (p.mem_iff.2 hq), ?_⟩
  refine (p.pairwise_iff fun {r r'} h g hg hg' => ?_).1 H.apart
  exact h g hg' hg
theorem Held.fresh {W0 w1 w' : World} {v : Value} {e sz n : Nat} {cs : List Value} (ho : w'.ownsRow w1.heap.size e sz v n cs) (h1 : ∃ x, w1 = Proofs.YtchcepihmphdmaaDoor.ext W0 x) (h2 : ∃ x, w' = Proofs.YtchcepihmphdmaaDoor.ext w1 x) : Held W0 w' [⟨v, e, sz, n, cs⟩] :=
  ((Held.start W0).to h1).push (bel_of_ext h2) ho
theorem Held.append {W0 w w' : World} {L : List Row} {r : Row} {v' : Value} {n' : Nat} {cs' : List Value} (H : Held W0 w (r :: L)) (hg : w.grownBy w' r.v.ownBlock) (ho : w'.ownsRow W0.heap.size r.e r.sz v' n' cs')
    (hat : v'.ownBlock = r.v.ownBlock ∨ v'.ownBlock = some w.heap.size ∨ v'.ownBlock = none) : Held W0 w' (⟨v', r.e, r.sz, n', cs'⟩ :: L) := by
  have hr0 := H.own r List.mem_cons_self
  refine ⟨H.bel.grown hg H.le (fun k hk => (hr0.lt k hk).1), fun r' hr' => ?_, List.Pairwise.cons (fun r' hr' g hg1 hg2 => ?_) H.apart.of_cons⟩
  · rcases List.mem_cons.1 hr' with rfl | hr'
    · exact ho
    · refine (H.own r' (List.mem_cons_of_mem _ hr')).kept hg ?_
      cases hb : r'.v.ownBlock with
      | none => exact .inl rfl
      | some g =>
        refine .inr fun e => ?_
        exact (List.pairwise_cons.1 H.apart).1 r' hr' g e.symm hb
  · have h1 := ((H.own r' (List.mem_cons_of_mem _ hr')).lt g hg2).2
    simp only at hg1
    rcases hat with h | h | h
    · exact (List.pairwise_cons.1 H.apart).1 r' hr' g (by rw [← h]; exact hg1) hg2
    · rw [h] at hg1; cases hg1; omega
    · rw [h] at hg1; cases hg1
/-- rows that a callee has made -/
theorem Held.join {W0 w w' : World} {L L' : List Row} (H : Held W0 w L) (K : Held w w' L') : Held W0 w' (L' ++ L) := by
  have H' := H.grow K.bel
  refine ⟨H'.bel, fun r hr => ?_, List.pairwise_append.2 ⟨K.apart, H'.apart, fun r hr r' hr' g hg hg' => ?_⟩⟩
  · rcases List.mem_append.1 hr with hr | hr
    · exact own_base (K.own r hr) H.le
    · exact H'.own r hr
  · have h1 := ((K.own r hr).lt g hg).1
    have h2 := ((H.own r' hr').lt g hg').2
    omega
/-- an empty slice that was made -/
theorem Held.empty {W0 w : World} {L : List Row} (H : Held W0 w L) (e sz : Nat) : Held W0 (w.alloc (.cells #[] e)) (⟨.slice (some ⟨w.heap.size, 0, none⟩) 0 0, e, sz, 0, []⟩ :: L) :=
  H.push ((Below.refl _ _).alloc (Nat.le_refl _) _) (World.ownsRow_made w #[] 0 (Nat.le_refl _) (by simp [maxLen]) (by simp))
theorem perm_pull {α : Type} {r : α} : ∀ (L : List α) (i : Nat), L[i]? = some r → L.Perm (r :: L.eraseIdx i)
  | [], i, h => by simp at h
  | x :: L, 0, h => by
    have : x = r := by simpa using h
    subst this
    exact List.Perm.refl _
  | x :: L, i + 1, h => by
    have := perm_pull L i (by simpa using h)
    exact (List.Perm.cons x this).trans (List.Perm.swap _ _ _)
/-- row i to the front -/
theorem Held.pull {W0 w : World} {L : List Row} {r : Row} (H : Held W0 w L) (i : Nat) (h : L[i]? = some r) : Held W0 w (r :: L.eraseIdx i) := H.front (perm_pull L i h)
/-- what append and make ask of a slice type t with elements of type e -/
structure Elem (P : Program) (t e size bytes : Nat) (z : Value) : Prop where
  ut : P.underlying t = some (.slice e)
  info : (P.info? e).map (fun i => (i.zero, i.size, i.bytes)) = some (some z, size, bytes)
  zs : z.cells.size = size
  pos : 0 < size
/-! ### append -/
theorem run_append_sl {P : Program} (w : World) (base : Nat) (t ty e : TypeId) (z : Value) (size bytes : Nat) (E : Elem P t e size bytes z) (v u : Value) (n m : Nat) (xs news : List Value) (hown : w.ownsRow base e size v n xs) (hsl : Sl w size u m news) (h1 : ∀ u ∈ news, u.oneCell' = true)
    (h63 : n + m ≤ maxLen) (hbytes : (n + m) * bytes ≤ 140737488355328) (hbase : base ≤ w.heap.size) :
    ∃ v' w', (Builtin.append_ #[t, t] ty #[v, u]).run P w = .ok v' w' ∧ w'.ownsRow base e size v' (n + m) (xs ++ news) ∧ w.grownBy w' v.ownBlock ∧ (v'.ownBlock = v.ownBlock ∨ v'.ownBlock = some w.heap.size ∨ v'.ownBlock = none) := by
  obtain ⟨i, hi, hz, hsize, hby⟩ := info_parts E.info
  have ht := E.ut
  obtain ⟨a, b, o, cap, rfl, s1, s2, s3, s4, s5⟩ := hsl
  rcases Nat.eq_zero_or_pos m with rfl | hm
  · have hnews : news = [] := List.eq_nil_of_length_eq_zero (by simpa using s3)
    subst hnews
    have hr : (Builtin.append_ #[t, t] ty #[v, .slice a 0 cap]).run P w = .ok v w := by
      have e0 : (Builtin.firstCells size 0 (.slice a 0 cap)).run P w = .ok #[] w := by
        cases a <;> simp [Builtin.firstCells, loadCells, loadCellsFrom]
      rcases hown.2 with ⟨rfl, rfl⟩ | ⟨g, cap', cur, rfl, _, _, hnc, _⟩
      · simp [Builtin.append_, run_underlying ht, sizeOf, typeInfo, hi, Builtin.lenOf, hsize, e0]
      · simp [Builtin.append_, run_underlying ht, sizeOf, typeInfo, hi, Builtin.lenOf, hsize, e0, hnc, storeCells]
    exact ⟨v, w, hr, by simpa using hown, World.grownBy.refl _ _, .inl rfl⟩
  · obtain ⟨rfl, hb⟩ := s4 hm
    obtain ⟨g, cap', w', h2, h3, h4, h5, _⟩ := run_append_lies (P := P) w t ty base e i z size bytes ht hi hz hsize hby E.zs E.pos v n xs hown ⟨b, o, none⟩ m cap news s3 (fun j u hu => by
      have hj := (List.getElem?_eq_some_iff.1 hu).1
      rw [Go.WideShapes.add_plain, s5 j hj, hu]) h1 hm h63 hbytes hbase w.heap.size rfl
    refine ⟨_, w', h2, h3, h4, ?_⟩
    rcases h5 with h5 | h5
    · exact .inl h5.symm
    · exact .inr (.inl (by rw [h5]; rfl))
theorem wpList_append_held {P : Program} {W0 : World} {w : World} {L : List Row} {ops : Array Oper} {rest : List Oper} {o : Oper} {a : Act} {Q : Exit → Act → World → Prop} (hgd : o.guard = none) (s x : Operand) (t : TypeId)
    (ho : o.op = .call { callee := .builtin .append, args := #[s, x], argTypes := #[t, t] })
    {e size bytes : Nat} {z : Value} (E : Elem P t e size bytes z) {v u : Value} {n m : Nat} {xs news : List Value} (H : Held W0 w (⟨v, e, size, n, xs⟩ :: L)) (hs : a.eval s = v) (hx : a.eval x = u) (hsl : Sl w size u m news) (h1 : ∀ u ∈ news, u.oneCell' = true)
    (h63 : n + m ≤ maxLen) (hbytes : (n + m) * bytes ≤ 140737488355328)
    (h : ∀ v' w', Held W0 w' (⟨v', e, size, n + m, xs ++ news⟩ :: L) → wpList P ops Q rest (a.put o.dst v') w') : wpList P ops Q (o :: rest) a w := by
  refine wpList_plain hgd fun K hK => ?_
  obtain ⟨v', w', hr, h2, h3, h4⟩ := run_append_sl (P := P) w W0.heap.size t o.type e z size bytes E v u n m xs news (H.own _ List.mem_cons_self) hsl h1 h63 hbytes H.le
  unfold Oper.wp execOp
  simp only [ho, resolve, invoke, builtin, Sem.run_bind, Sem.run_pure, Result.andThen_ok, List.map_toArray, List.map_cons, List.map_nil, hs, hx, hr]
  exact hK _ _ (h v' w' (H.append h3 h2 h4))
theorem wpList_make_held {P : Program} {W0 : World} {w : World} {L : List Row} {ops : Array Oper} {rest : List Oper} {o : Oper} {a : Act} {Q : Exit → Act → World → Prop}
    (hg : o.guard = none) (l c : Operand) (t : TypeId) (hop : o.op = Op.makeSlice t l c) {e size bytes : Nat} {z : Value} (E : Elem P t e size bytes z) (H : Held W0 w L)
    (kl kc : IntKind) (N C : Int) (n : Nat) (hl : a.eval l = .int kl N) (hc : a.eval c = .int kc C) (hL : N = (n : Int)) (hC : C = (n : Int)) (b2 : bytes * n ≤ 281474976710656) (b3 : n ≤ maxLen)
    (hK : ∀ w', Held W0 w' (⟨.slice (some ⟨w.heap.size, 0, none⟩) n n, e, size, n, (madeCells z.cells (n * size)).toList⟩ :: L) → wpList P ops Q rest (a.put o.dst (.slice (some ⟨w.heap.size, 0, none⟩) n n)) w') :
    wpList P ops Q (o :: rest) a w := by
  obtain ⟨i, hi, hz, hsize, hby⟩ := info_parts E.info
  refine wpList_make_full w hg l c t hop w.heap.size e i z size E.ut hi hz hsize kl kc N C n hl hc hL hC (by rw [hby]; exact b2) b3 (Nat.le_refl _) fun w' h1 h2 => hK w' (H.push ((Below.refl _ _).grown h2 (Nat.le_refl _) (fun k hk => by cases hk)) h1)
theorem Sl_new1 (w : World) (u : Value) (t : TypeId) : Sl (w.alloc (.cells #[u] t)) 1 (.slice (some ⟨w.heap.size, 0, none⟩) 1 1) 1 [u] := by
  refine ⟨_, w.heap.size, 0, 1, rfl, Nat.le_refl _, by simp [maxLen], rfl, fun _ => ⟨rfl, by simp⟩, fun i hi => ?_⟩
  rw [Nat.zero_add, World.cell?_alloc_at _ _ _ _ rfl]
  simp
/-- a new block of cells, read as a slice -/
theorem Sl_new (w : World) (cs : Array Value) (t : TypeId) (sz n : Nat) (h : cs.size = n * sz) (hn : n ≤ maxLen) (hsz : 0 < sz) : Sl (w.alloc (.cells cs t)) sz (.slice (some ⟨w.heap.size, 0, none⟩) n n) n cs.toList := by
  refine ⟨_, w.heap.size, 0, n, rfl, Nat.le_refl _, hn, by simpa using h, fun _ => ⟨rfl, by simp⟩, fun i hi => ?_⟩
  rw [Nat.zero_add, World.cell?_alloc_at _ _ _ _ rfl]
  simp
end
section
open Go.ChangeShapes Go.WideShapes Go.ChangeAt Go.RowKit
theorem infoInt : (Tryd.prog.info? 3).map (fun i => i.size) = some 1 := by kernel_rfl
theorem infoInt3 : (Tryd.prog.info? 3).map (fun i => (i.zero, i.size, i.bytes)) = some (some (.int .i64 0), 1, 8) := by kernel_rfl
theorem IntsAt.opn {w : World} {v : Value} {xs : List Int} (h : IntsAt w v xs) :
    ∃ a b o cap, v = .slice a xs.length cap ∧ xs.length ≤ cap ∧ xs.length ≤ 9223372036854775807 ∧ cap ≤ 9223372036854775807 ∧ ∀ k, k < xs.length → Old w b ∧ (∀ w', (Instr.indexAt 22 (.slice a xs.length cap) (.int .i64 k)).run Tryd.prog w' = .ok (.pointer (some ⟨b, o + k, none⟩)) w') ∧
      w.cell? ⟨b, o + k, none⟩ = some (.int .i64 (nth xs k)) := by
  obtain ⟨a, b, o, cap, rfl, h1, h2, h3, h4⟩ := Sl.idx h Tryd.underlying22 infoInt
  refine ⟨a, b, o, cap, rfl, h1, h2, h3, fun k hk => ?_⟩
  obtain ⟨g1, g2, g3⟩ := h4 k hk
  refine ⟨g1, fun w' => by have := g2 w'; rwa [Nat.mul_one] at this, ?_⟩
  have := g3 0 (by omega)
  rw [Nat.mul_one, Nat.add_zero, Nat.add_zero] at this
  rw [this, getElem_of_nth hk]
theorem slice_to (a : Option Addr) (n cap k : Nat) (h : k ≤ cap) (w : World) :
    (Instr.slice 22 (.slice a n cap) none (some (.int .i64 k)) none).run Tryd.prog w = .ok (.slice a k cap) w := by
  obtain ⟨i, h1, h2⟩ := Option.map_eq_some_iff.1 infoInt
  have e : (fun x : Addr => x.add 0) = id := by funext x; simp [Addr.add]
  simp [Instr.slice, run_underlying Tryd.underlying22, Instr.sliceBounds, Instr.sliceBound, asIntOf, h, sizeOf, typeInfo, h1, e]
theorem IntsAt.take {w : World} {a : Option Addr} {n cap : Nat} {l : List Int} (h : IntsAt w (.slice a n cap) l) {k : Nat} (hk : k ≤ l.length) : IntsAt w (.slice a k cap) (l.take k) := by
  obtain ⟨a', b, o, cap', e, h1, h2, h3, h4, h5⟩ := h
  simp only [Value.slice.injEq] at e
  obtain ⟨rfl, rfl, rfl⟩ := e
  have hl : (l.take k).length = k := by simp; omega
  refine ⟨a, b, o, cap, by rw [hl], by omega, h2, by simp, fun hn => h4 (by omega), fun i hi => ?_⟩
  have hi' : i < k := by simp at hi; omega
  rw [h5 i (by simp; omega), List.map_take, List.getElem?_take, if_pos hi']
theorem nth_take {l : List Int} {k i : Nat} (h : i < k) : nth (l.take k) i = nth l i := by simp [nth, List.getD, h]
end
section
open Go.ChangeShapes Go.WideShapes Go.ChangeAt Go.RowKit
/-- the call's own row: a fresh slice -/
abbrev OwnI (w : World) (B : Nat) (v : Value) (xs : List Int) : Prop := w.ownsRow B 3 1 v xs.length (xs.map iv)
theorem IntsAt_own {w : World} {B : Nat} {v : Value} {xs : List Int} (h : OwnI w B v xs) : IntsAt w v xs := Sl_own h
theorem OwnI.ext {w : World} {B : Nat} {v : Value} {xs : List Int} (h : OwnI w B v xs) (x : Ext) : OwnI (ext w x) B v xs := by
  refine ⟨h.1, ?_⟩
  rcases h.2 with h2 | ⟨g, cap, cur, h1, h2, h3, h4⟩
  · exact .inl h2
  · exact .inr ⟨g, cap, cur, h1, h2, by rw [heap_ext w x (Array.getElem?_eq_some_iff.1 h3).1]; exact h3, h4⟩
/-- k elements written, the rest noughts -/
def part (xs : List Int) (k : Nat) : List Value := (xs.take k).map iv ++ List.replicate (xs.length - k) (iv 0)
theorem part_zero (xs : List Int) : part xs 0 = List.replicate xs.length (iv 0) := by simp [part]
theorem part_all (xs : List Int) : part xs xs.length = xs.map iv := by simp [part]
theorem part_step (xs : List Int) (k : Nat) (h : k < xs.length) : (part xs k).set k (iv (nth xs k)) = part xs (k + 1) := by
  apply List.ext_getElem?
  intro i
  simp only [part, List.getElem?_set, List.getElem?_append, List.getElem?_map, List.getElem?_take, List.length_map, List.length_take, List.length_append, List.length_replicate, List.getElem?_replicate]
  by_cases hi : k = i
  · subst hi
    simp [h, nth, show k < min (k + 1) xs.length by omega, show k < min k xs.length + (xs.length - k) by omega]
  · simp only [hi, if_false]
    by_cases h2 : i < k
    · simp [show i < min k xs.length by omega, show i < min (k + 1) xs.length by omega, h2, show i < k + 1 by omega]
    · simp only [show ¬ i < min k xs.length by omega, show ¬ i < min (k + 1) xs.length by omega, if_false]
      by_cases h3 : i < xs.length
      · rw [if_pos (by omega), if_pos (by omega)]
      · rw [if_neg (by omega), if_neg (by omega)]
theorem part_length (xs : List Int) (k : Nat) (h : k ≤ xs.length) : (part xs k).length = xs.length := by simp [part]; omega
theorem part_cell (xs : List Int) (k : Nat) (h : k < xs.length) : ∃ u, (part xs k)[k]? = some u := by
  have := part_length xs k (by omega)
  exact ⟨(part xs k)[k], by simp [this, h]⟩
theorem madeOne (z : Value) (n : Nat) : (madeCells #[z] n).toList = List.replicate n z := by
  apply List.ext_getElem?
  intro i
  by_cases h : i < n <;> simp [madeCells, h, Nat.mod_one]
def eqInts (a b : List Int) : Bool := decide (a.length = b.length) && allTo (fun k => nth a k == nth b k) a.length
theorem eqInts_self (a : List Int) : eqInts a a = true := by simp [eqInts, allTo_true]
theorem eqInts_eq {a b : List Int} (h : eqInts a b = true) : a = b := by
  simp [eqInts, allTo_true, nth] at h
  apply List.ext_getElem h.1
  intro i h1 h2
  have := h.2 i h1
  simpa [h1, h2] using this
theorem eqIntS_any (xs ys : List Int) (v u : Value) (w : World) (h : IntsAt w v xs) (h' : IntsAt w u ys) :
    Calls Tryd.prog 35 #[v, u] w fun e w' => e = .returned (.bool (eqInts xs ys)) ∧ ∃ x, w' = ext w x := by
  obtain ⟨a, b, o, cap, rfl, hc1, hc2, hc3, hcell⟩ := h.opn
  obtain ⟨a', b', o', cap', rfl, hc1', hc2', hc3', hcell'⟩ := h'.opn
  by_cases hl : xs.length = ys.length
  · have hne : ((xs.length : Int) != ys.length) = false := by simp [hl]
    have HL := Lib.hid hl
    have hle : xs.length ≤ ys.length := by omega
    clear hl
    go_enter Tryd.func35, Tryd.ntmps35
    go_wp2_with fail
    go_loopw [5] (fun i wr => ∃ k : Nat, k ≤ xs.length ∧ i = .int .i64 k ∧ allTo (fun k => nth xs k == nth ys k) k = true ∧ ∃ x, wr = ext w x) (fun i _ => xs.length - (intOf i).toNat)
    case atStart => exact ⟨0, Nat.zero_le _, rfl, rfl, (by repeat (first | exact ext_refl _ | (with_reducible assumption) | refine ext_ext' ?_ _ | refine ext_alloc' ?_ _ | refine ext_drew' ?_))⟩
    case round =>
      obtain ⟨k, hk, rfl, hall, x, rfl⟩ := hrel
      have HA := Lib.hid hall
      clear hall
      by_cases hlt : k < xs.length
      · obtain ⟨hb, hi, hck⟩ := hcell k hlt
        obtain ⟨hb', hi', hck'⟩ := hcell' k (by omega)
        clear hcell hcell'
        cases hq : nth xs k == nth ys k
        all_goals
          have hq' : (nth xs k != nth ys k) = !(nth xs k == nth ys k) := rfl
          rw [hq] at hq'
          go_wp2_with fail
          refine wp_region_ext_lit (by kernel_rfl) (by kernel_rfl) ?_
          repeat (go_big_quiet_step (fail))
          refine wpQuiet_nil ?_
          intro _ hwq
          obtain ⟨xq, hwq⟩ := hwq
          subst hwq
          go_wp2_with fail
        · go_ret
          exact ⟨ret_bool (by simp only [eqInts, allTo_false (p := fun k => nth xs k == nth ys k) hlt hq, Bool.and_false]), (by repeat (first | exact ext_refl _ | (with_reducible assumption) | refine ext_ext' ?_ _ | refine ext_alloc' ?_ _ | refine ext_drew' ?_))⟩
        · go_roundw
          case rel => exact ⟨k + 1, hlt, int_succ k, allTo_succ HA.out hq, (by repeat (first | exact ext_refl _ | (with_reducible assumption) | refine ext_ext' ?_ _ | refine ext_alloc' ?_ _ | refine ext_drew' ?_))⟩
          case measure => simp [intOf]; omega
      · go_wp2_with fail
        go_ret
        obtain rfl : k = xs.length := by omega
        exact ⟨ret_bool (by rw [eqInts, HA.out, decide_eq_true HL.out]; rfl), (by repeat (first | exact ext_refl _ | (with_reducible assumption) | refine ext_ext' ?_ _ | refine ext_alloc' ?_ _ | refine ext_drew' ?_))⟩
  · have hne : ((xs.length : Int) != ys.length) = true := by simp; omega
    have HL := Lib.hid hl
    clear hl
    go_enter Tryd.func35, Tryd.ntmps35
    go_wp2_with fail
    go_ret
    exact ⟨ret_bool (by simp [eqInts, HL.out]), (by repeat (first | exact ext_refl _ | (with_reducible assumption) | refine ext_ext' ?_ _ | refine ext_alloc' ?_ _ | refine ext_drew' ?_))⟩
end
section
open Go.ChangeShapes Go.WideShapes Go.ChangeAt Go.RowKit
def marks (k : Int) (n : Nat) : List Int := (List.range n).map fun i : Nat => k + (i : Int)
theorem marks_len (k : Int) (n : Nat) : (marks k n).length = n := by simp [marks]
theorem marks_nth (k : Int) (n i : Nat) (h : i < n) : nth (marks k n) i = k + i := by simp [marks, nth, List.getD, h]
/-- j elements marked -/
def marked (xs : List Int) (k : Int) (j : Nat) : List Value := (marks k j).map iv ++ (xs.drop j).map iv
theorem marked_zero (xs : List Int) (k : Int) : marked xs k 0 = xs.map iv := by simp [marked, marks]
theorem marked_all (xs : List Int) (k : Int) : marked xs k xs.length = (marks k xs.length).map iv := by simp [marked]
theorem marked_step (xs : List Int) (k : Int) (j : Nat) (h : j < xs.length) : (marked xs k j).set j (iv (k + j)) = marked xs k (j + 1) := by
  have e1 : ((marks k j).map iv).length = j := by simp [marks]
  have e2 : (marks k (j + 1)) = marks k j ++ [k + (j : Int)] := by simp [marks, List.range_succ]
  have e3 : xs.drop j = xs[j] :: xs.drop (j + 1) := List.drop_eq_getElem_cons h
  have e4 : (xs.drop j).map iv = iv xs[j] :: (xs.drop (j + 1)).map iv := by rw [e3]; rfl
  rw [marked, marked, e2, e4, List.set_append_right _ _ (by omega), e1, Nat.sub_self, List.set_cons_zero, List.map_append, List.append_assoc]
  rfl
theorem marked_cell (xs : List Int) (k : Int) (j : Nat) (h : j < xs.length) : ∃ u, (marked xs k j)[j]? = some u := by
  have : j < (marked xs k j).length := by simp [marked, marks]; omega
  exact ⟨_, List.getElem?_eq_getElem this⟩
theorem grown_trans {a b c : World} {row : Option Nat} (h : a.grownBy b row) (k : b.grownBy c row) : a.grownBy c row :=
  ⟨k.os.trans h.os, k.tape.trans h.tape, k.output.trans h.output, Nat.le_trans h.size k.size, fun i hi hne => (k.block i (Nat.lt_of_lt_of_le hi h.size) hne).trans (h.block i hi hne)⟩
theorem markIntS_any (xs : List Int) (v : Value) (k : Int) (B : Nat) (w : World) (ho : OwnI w B v xs) (h0 : 0 ≤ k) (h1 : k ≤ 1099511627776) (hs : xs.length ≤ 1099511627776) :
    Calls Tryd.prog 36 #[v, .int .i64 k] w fun e w' => e = .returned (.int .i64 (k + xs.length)) ∧ w.grownBy w' v.ownBlock ∧ OwnI w' B v (marks k xs.length) := by
  have hlen : (marks k xs.length).length = xs.length := marks_len k _
  rcases ho.2 with ⟨rfl, hn⟩ | ⟨g, cap, cur, rfl, hB, hg, hnc, hcm, hcs, htk⟩
  · have hx : xs = [] := List.eq_nil_of_length_eq_zero hn
    subst hx
    go_enter Tryd.func36, Tryd.ntmps36
    go_wp2_with fail
    go_loop [1, 5] (fun kk i => i = .int .i64 0 ∧ kk = .int .i64 k) (fun _ _ => 0)
    case atStart => exact ⟨rfl, rfl⟩
    case round =>
      obtain ⟨rfl, rfl⟩ := hrel
      go_wp2_with fail
      go_ret
      exact ⟨ret_int (by simp), World.grownBy.refl _ _, by simpa [marks] using ho⟩
  · have HO := Lib.hid ho
    have hz := marked_zero xs k
    have hB' : Old w g := ⟨(Array.getElem?_eq_some_iff.1 hg).1⟩
    unfold maxLen at hcm
    clear hcs htk hg ho
    go_enter Tryd.func36, Tryd.ntmps36
    go_wp2_with fail
    go_loopw [1, 5] (fun kk i wr => ∃ j : Nat, j ≤ xs.length ∧ i = .int .i64 j ∧ kk = .int .i64 (k + j) ∧ wr.ownsRow B 3 1 (.slice (some ⟨g, 0, none⟩) xs.length cap) xs.length (marked xs k j) ∧ w.grownBy wr (some g)) (fun _ i _ => xs.length - (intOf i).toNat)
    case atStart => exact ⟨0, Nat.zero_le _, rfl, by simp, by rw [hz]; exact HO.out, World.grownBy.refl _ _⟩
    case round =>
      clear hz
      obtain ⟨j, hj, rfl, rfl, hown, hgr⟩ := hrel
      by_cases hlt : j < xs.length
      · obtain ⟨u, hu⟩ := marked_cell xs k j hlt
        have hc0 : wr.cell? ⟨g, j, none⟩ = some u := by rw [hown.cellAt j (by omega), hu]
        have hf0 : wr.frozen? ⟨g, j, none⟩ = false := hown.frozenAt j
        have hst := hown.stored j (iv (k + j))
        rw [marked_step xs k j hlt] at hst
        have HST := Lib.hid hst
        have HG := Lib.hid hgr
        clear hst hown hu hgr
        go_wp2_with fail
        go_roundw
        case rel => exact ⟨j + 1, hlt, int_succ j, by congr 1; omega, HST.out.1, grown_trans HG.out HST.out.2⟩
        case measure => simp [intOf]; omega
      · obtain rfl : j = xs.length := by omega
        rw [marked_all] at hown
        go_wp2_with fail
        go_ret
        exact ⟨rfl, hgr, by rw [OwnI, hlen]; exact hown⟩
theorem heldIntS_any (n : Nat) (v : Value) (k : Int) (w : World) (h : IntsAt w v (marks k n)) (h0 : 0 ≤ k) (h1 : k ≤ 1099511627776) (hs : n ≤ 1099511627776) :
    Calls Tryd.prog 37 #[v, .int .i64 k] w fun e w' => e = .returned (.int .i64 (k + n)) ∧ ∃ x, w' = ext w x := by
  obtain ⟨a, b, o, cap, rfl, hc1, hc2, hc3, hcell⟩ := h.opn
  have hlen : (marks k n).length = n := marks_len k _
  rw [hlen] at hc1 hc2 hcell h ⊢
  have HC := Lib.hid hcell
  clear hlen hcell
  go_enter Tryd.func37, Tryd.ntmps37
  go_wp2_with fail
  go_loopw [1, 5] (fun kk i wr => ∃ j : Nat, j ≤ n ∧ i = .int .i64 j ∧ kk = .int .i64 (k + j) ∧ ∃ x, wr = ext w x) (fun _ i _ => n - (intOf i).toNat)
  case atStart => exact ⟨0, Nat.zero_le _, rfl, by simp, (by repeat (first | exact ext_refl _ | (with_reducible assumption) | refine ext_ext' ?_ _ | refine ext_alloc' ?_ _ | refine ext_drew' ?_))⟩
  case round =>
    obtain ⟨j, hj, rfl, rfl, x, rfl⟩ := hrel
    by_cases hlt : j < n
    · obtain ⟨hb, hi, hck⟩ := HC.out j hlt
      rw [marks_nth k n j hlt] at hck
      have hq : (k + (j : Int) != k + j) = false := by simp
      go_wp2_with fail
      go_roundw
      case rel => exact ⟨j + 1, hlt, int_succ j, by congr 1; omega, (by repeat (first | exact ext_refl _ | (with_reducible assumption) | refine ext_ext' ?_ _ | refine ext_alloc' ?_ _ | refine ext_drew' ?_))⟩
      case measure => simp [intOf]; omega
    · obtain rfl : j = n := by omega
      go_wp2_with fail
      go_ret
      exact ⟨rfl, (by repeat (first | exact ext_refl _ | (with_reducible assumption) | refine ext_ext' ?_ _ | refine ext_alloc' ?_ _ | refine ext_drew' ?_))⟩
abbrev rowI (v : Value) (xs : List Int) : Row := ⟨v, 3, 1, xs.length, xs.map iv⟩
theorem elemInt : Elem Tryd.prog 22 3 1 8 (.int .i64 0) := ⟨Tryd.underlying22, infoInt3, rfl, by decide⟩
theorem Held.ints {W0 w : World} {L : List Row} (H : Held W0 w L) {v : Value} {xs : List Int} (h : rowI v xs ∈ L) : IntsAt w v xs := H.sl h
theorem Held.ints0 {W0 w : World} {L : List Row} {v : Value} {xs : List Int} (H : Held W0 w (rowI v xs :: L)) : IntsAt w v xs := H.sl List.mem_cons_self
theorem Held.oldI {W0 w : World} {L : List Row} (H : Held W0 w L) {v : Value} {xs : List Int} (h : IntsAt W0 v xs) : IntsAt w v xs := h.mono H.bel
theorem markIntS_held {W0 : World} {L : List Row} (xs : List Int) (v : Value) (k : Int) (w : World) (H : Held W0 w (rowI v xs :: L)) (h0 : 0 ≤ k) (h1 : k ≤ 1099511627776) (hs : xs.length ≤ 1099511627776) :
    Calls Tryd.prog 36 #[v, .int .i64 k] w fun e w' => e = .returned (.int .i64 (k + xs.length)) ∧ Held W0 w' (rowI v (marks k xs.length) :: L) :=
  (markIntS_any xs v k W0.heap.size w (H.own _ List.mem_cons_self) h0 h1 hs).mono fun e w' ⟨he, hg, ho⟩ => ⟨he, by
    have hl := marks_len k xs.length
    have := H.write (cs := (marks k xs.length).map iv) hg (by rw [OwnI, hl] at ho; exact ho)
    rw [rowI, hl]; exact this⟩
end
section
open Go.ChangeShapes Go.WideShapes Go.ChangeAt Go.RowKit
def vAt (vs : List Value) (k : Nat) : Value := vs.getD k undef
def rAt (xss : List (List Int)) (k : Nat) : List Int := xss.getD k []
def RowsAt (w : World) (v : Value) (xss : List (List Int)) : Prop :=
  ∃ vs : List Value, Sl w 1 v xss.length vs ∧ ∀ k, k < xss.length → IntsAt w (vAt vs k) (rAt xss k)
theorem RowsAt.mono {w w' : World} {v : Value} {xss : List (List Int)} (h : RowsAt w v xss) (hb : Below w.heap.size w w') : RowsAt w' v xss := by
  obtain ⟨vs, h1, h2⟩ := h
  exact ⟨vs, h1.mono hb, fun k hk => (h2 k hk).mono hb⟩
theorem infoInts : (Tryd.prog.info? 22).map (fun i => i.size) = some 1 := by kernel_rfl
theorem infoInts3 : (Tryd.prog.info? 22).map (fun i => (i.zero, i.size, i.bytes)) = some (some (.slice none 0 0), 1, 24) := by kernel_rfl
theorem elemInts : Elem Tryd.prog 43 22 1 24 (.slice none 0 0) := ⟨Tryd.underlying43, infoInts3, rfl, by decide⟩
theorem RowsAt.opn {w : World} {v : Value} {xss : List (List Int)} (h : RowsAt w v xss) :
    ∃ a b o cap vs, v = .slice a xss.length cap ∧ xss.length ≤ cap ∧ xss.length ≤ 9223372036854775807 ∧ cap ≤ 9223372036854775807 ∧ ∀ k, k < xss.length → Old w b ∧ (∀ w', (Instr.indexAt 43 (.slice a xss.length cap) (.int .i64 k)).run Tryd.prog w' = .ok (.pointer (some ⟨b, o + k, none⟩)) w') ∧
      w.cell? ⟨b, o + k, none⟩ = some (vAt vs k) ∧ IntsAt w (vAt vs k) (rAt xss k) := by
  obtain ⟨vs, h0, hr⟩ := h
  have hlen : vs.length = xss.length := by obtain ⟨_, _, _, _, _, _, _, h3, _⟩ := h0; simpa using h3
  obtain ⟨a, b, o, cap, rfl, h1, h2, h3, h4⟩ := Sl.idx h0 Tryd.underlying43 infoInts
  refine ⟨a, b, o, cap, vs, rfl, h1, h2, h3, fun k hk => ?_⟩
  obtain ⟨g1, g2, g3⟩ := h4 k hk
  refine ⟨g1, fun w' => by have := g2 w'; rwa [Nat.mul_one] at this, ?_, hr k hk⟩
  have := g3 0 (by omega)
  rw [Nat.mul_one, Nat.add_zero, Nat.add_zero] at this
  rw [this, vAt, List.getD, List.getElem?_eq_getElem (by omega)]
  rfl
/-- inner rows -/
def rowsI (vs : List Value) (xss : List (List Int)) : List Row := List.zipWith rowI vs xss
theorem rowsI_snoc (vs : List Value) (xss : List (List Int)) (v : Value) (xs : List Int) (h : vs.length = xss.length) : rowsI (vs ++ [v]) (xss ++ [xs]) = rowsI vs xss ++ [rowI v xs] := by
  simp [rowsI, List.zipWith_append h]
theorem rowsI_mem {vs : List Value} {xss : List (List Int)} {k : Nat} (h : vs.length = xss.length) (hk : k < xss.length) : rowI (vAt vs k) (rAt xss k) ∈ rowsI vs xss := by
  have h1 : k < vs.length := by omega
  have : (rowsI vs xss)[k]? = some (rowI (vAt vs k) (rAt xss k)) := by
    simp [rowsI, List.getElem?_zipWith, vAt, rAt, List.getD, h1, hk]
  exact List.mem_of_getElem? this
/-- a slice of rows that the call has made: the outer row and the inner ones -/
def grpR (v : Value) (vs : List Value) (xss : List (List Int)) : List Row := ⟨v, 22, 1, xss.length, vs⟩ :: rowsI vs xss
abbrev grpI (v : Value) (xs : List Int) : List Row := [rowI v xs]
/-! ### groups -/
def HeldG (W0 w : World) (G : List (List Row)) : Prop := Held W0 w G.flatten
theorem HeldG.start (w : World) : HeldG w w [] := Held.start w
theorem HeldG.bel {W0 w : World} {G : List (List Row)} (H : HeldG W0 w G) : Below W0.heap.size W0 w := Held.bel H
theorem HeldG.ext {W0 w : World} {G : List (List Row)} (H : HeldG W0 w G) (x : Ext) : HeldG W0 (ext w x) G := Held.ext H x
theorem HeldG.to {W0 w w' : World} {G : List (List Row)} (H : HeldG W0 w G) (h : ∃ x, w' = Proofs.YtchcepihmphdmaaDoor.ext w x) : HeldG W0 w' G := Held.to H h
theorem HeldG.push {W0 w w' : World} {G : List (List Row)} {g : List Row} (H : HeldG W0 w G) (K : Held w w' g) : HeldG W0 w' (g :: G) := Held.join H K
theorem HeldG.pushI {W0 w w' : World} {G : List (List Row)} {v : Value} {xs : List Int} (H : HeldG W0 w G) (h : ∃ x, w' = Proofs.YtchcepihmphdmaaDoor.ext w x) (ho : OwnI w' w.heap.size v xs) : HeldG W0 w' (grpI v xs :: G) := H.push (Held.fresh ho (ext_refl w) h)
theorem HeldG.pull {W0 w : World} {G : List (List Row)} {g : List Row} (H : HeldG W0 w G) (i : Nat) (h : G[i]? = some g) : HeldG W0 w (g :: G.eraseIdx i) := Held.front H (perm_pull G i h).flatten
theorem HeldG.row {W0 w : World} {G : List (List Row)} (H : HeldG W0 w G) {g : List Row} {v : Value} {e sz n : Nat} {cs : List Value} (hg : g ∈ G) (hr : (⟨v, e, sz, n, cs⟩ : Row) ∈ g) : Sl w sz v n cs := Held.sl H (List.mem_flatten.2 ⟨g, hg, hr⟩)
theorem HeldG.ints {W0 w : World} {G : List (List Row)} (H : HeldG W0 w G) {v : Value} {xs : List Int} (hg : grpI v xs ∈ G) : IntsAt w v xs := H.row hg List.mem_cons_self
theorem HeldG.oldI {W0 w : World} {G : List (List Row)} (H : HeldG W0 w G) {v : Value} {xs : List Int} (h : IntsAt W0 v xs) : IntsAt w v xs := h.mono H.bel
theorem HeldG.oldR {W0 w : World} {G : List (List Row)} (H : HeldG W0 w G) {v : Value} {xs : List (List Int)} (h : RowsAt W0 v xs) : RowsAt w v xs := h.mono H.bel
theorem HeldG.rows {W0 w : World} {G : List (List Row)} (H : HeldG W0 w G) {v : Value} {vs : List Value} {xss : List (List Int)} (hl : vs.length = xss.length) (hg : grpR v vs xss ∈ G) : RowsAt w v xss :=
  ⟨vs, H.row hg List.mem_cons_self, fun _ hk => H.row hg (List.mem_cons_of_mem _ (rowsI_mem hl hk))⟩
theorem Held.rows {W0 w : World} {L : List Row} {v : Value} {vs : List Value} {xss : List (List Int)} (H : Held W0 w (grpR v vs xss ++ L)) (hl : vs.length = xss.length) : RowsAt w v xss :=
  ⟨vs, Held.sl H (List.mem_append_left _ List.mem_cons_self), fun _ hk => Held.sl H (List.mem_append_left _ (List.mem_cons_of_mem _ (rowsI_mem hl hk)))⟩
theorem markIntS_heldG {W0 : World} {G : List (List Row)} (xs : List Int) (v : Value) (k : Int) (w : World) (H : HeldG W0 w (grpI v xs :: G)) (h0 : 0 ≤ k) (h1 : k ≤ 1099511627776) (hs : xs.length ≤ 1099511627776) :
    Calls Tryd.prog 36 #[v, .int .i64 k] w fun e w' => e = .returned (.int .i64 (k + xs.length)) ∧ HeldG W0 w' (grpI v (marks k xs.length) :: G) := markIntS_held xs v k w H h0 h1 hs
theorem HeldG.rows2 {W0 w : World} {G : List (List Row)} (H : HeldG W0 w G) {v : Value} {vs : List Value} {xss : List (List Int)} (hg : grpR v vs xss ∈ G) (hl : vs.length = xss.length) : RowsAt w v xss := H.rows hl hg
/-! ### reading, comparing, measuring -/
def eqRows (a b : List (List Int)) : Bool := decide (a.length = b.length) && allTo (fun k => eqInts (rAt a k) (rAt b k)) a.length
theorem eqRows_self (a : List (List Int)) : eqRows a a = true := by simp [eqRows, allTo_true, eqInts_self]
/-! ### marks -/
def sumLen (xss : List (List Int)) : Nat → Nat := iter (fun i n => n + (rAt xss i).length) 0
theorem sumLen_succ (xss : List (List Int)) (j : Nat) : sumLen xss (j + 1) = sumLen xss j + (rAt xss j).length := rfl
theorem sumLen_mono (xss : List (List Int)) {i j : Nat} (h : i ≤ j) : sumLen xss i ≤ sumLen xss j := by
  induction j with
  | zero => simp at h; subst h; exact Nat.le_refl _
  | succ j ih =>
    by_cases e : i = j + 1
    · subst e; exact Nat.le_refl _
    · have := ih (by omega); rw [sumLen_succ]; omega
/-- the first j rows marked -/
def mixR (k : Int) (xss : List (List Int)) : Nat → List (List Int) := iter (fun j yss => yss.set j (marks (k + (sumLen xss j : Nat)) (rAt xss j).length)) xss
theorem mixR_succ (k : Int) (xss : List (List Int)) (j : Nat) : mixR k xss (j + 1) = (mixR k xss j).set j (marks (k + (sumLen xss j : Nat)) (rAt xss j).length) := rfl
theorem mixR_len (k : Int) (xss : List (List Int)) (j : Nat) : (mixR k xss j).length = xss.length := by
  induction j with
  | zero => rfl
  | succ j ih => rw [mixR_succ, List.length_set, ih]
theorem mixR_hi (k : Int) (xss : List (List Int)) (j i : Nat) (h : j ≤ i) : rAt (mixR k xss j) i = rAt xss i := by
  induction j with
  | zero => rfl
  | succ j ih =>
    rw [mixR_succ, rAt, List.getD, List.getElem?_set_ne (by omega)]
    exact ih (by omega)
theorem mixR_lo (k : Int) (xss : List (List Int)) (j i : Nat) (h : i < j) (hi : i < xss.length) : rAt (mixR k xss j) i = marks (k + (sumLen xss i : Nat)) (rAt xss i).length := by
  induction j with
  | zero => omega
  | succ j ih =>
    rw [mixR_succ, rAt, List.getD]
    by_cases e : i = j
    · subst e
      rw [List.getElem?_set_self (by rw [mixR_len]; exact hi)]; rfl
    · rw [List.getElem?_set_ne (by omega)]
      exact ih (by omega)
theorem rowsI_set (vs : List Value) (xss : List (List Int)) (j : Nat) (ys : List Int) (hl : vs.length = xss.length) (hj : j < xss.length) : (rowsI vs xss).set j (rowI (vAt vs j) ys) = rowsI vs (xss.set j ys) := by
  apply List.ext_getElem?
  intro i
  by_cases e : j = i
  · subst e
    have h1 : j < (rowsI vs xss).length := by simp [rowsI]; omega
    rw [List.getElem?_set_self h1]
    simp [rowsI, List.getElem?_zipWith, vAt, List.getD, hj, show j < vs.length by omega]
  · rw [List.getElem?_set_ne e]
    simp [rowsI, List.getElem?_zipWith, List.getElem?_set_ne e]
theorem perm_set {α : Type} (r' : α) : ∀ (L : List α) (i : Nat), i < L.length → (r' :: L.eraseIdx i).Perm (L.set i r')
  | [], i, h => by simp at h
  | x :: L, 0, h => List.Perm.refl _
  | x :: L, i + 1, h => (List.Perm.swap _ _ _).trans (List.Perm.cons x (perm_set r' L i (by simpa using h)))
def marksR (k : Int) (xss : List (List Int)) : List (List Int) := mixR k xss xss.length
def total (xss : List (List Int)) : Nat := sumLen xss xss.length
theorem rowsI_get {vs : List Value} {xss : List (List Int)} {k : Nat} (h : vs.length = xss.length) (hk : k < xss.length) : (rowsI vs xss)[k]? = some (rowI (vAt vs k) (rAt xss k)) := by
  have h1 : k < vs.length := by omega
  simp [rowsI, List.getElem?_zipWith, vAt, rAt, List.getD, h1, hk]
theorem Held.rowAt {W0 w : World} {L : List Row} {v : Value} {vs : List Value} {xss : List (List Int)} (H : Held W0 w (grpR v vs xss ++ L)) (hl : vs.length = xss.length) {j : Nat} (hj : j < xss.length) :
    ∃ L', Held W0 w (rowI (vAt vs j) (rAt xss j) :: L') ∧ ∀ ys, (rowI (vAt vs j) ys :: L').Perm (grpR v vs (xss.set j ys) ++ L) := by
  have e : (grpR v vs xss ++ L)[j + 1]? = some (rowI (vAt vs j) (rAt xss j)) := by
    have h1 : j < (rowsI vs xss).length := by simp [rowsI]; omega
    simp only [grpR, List.cons_append, List.getElem?_cons_succ]
    rw [List.getElem?_append_left h1, rowsI_get hl hj]
  refine ⟨_, H.pull (j + 1) e, fun ys => ?_⟩
  have hp := perm_set (rowI (vAt vs j) ys) (grpR v vs xss ++ L) (j + 1) (List.getElem?_eq_some_iff.1 e).1
  have h1 : j < (rowsI vs xss).length := by simp [rowsI]; omega
  have e2 : (grpR v vs xss ++ L).set (j + 1) (rowI (vAt vs j) ys) = grpR v vs (xss.set j ys) ++ L := by
    simp only [grpR, List.cons_append, List.set_cons_succ, List.length_set]
    rw [List.set_append_left _ _ h1, rowsI_set vs xss j ys hl hj]
  rw [← e2]; exact hp
end
section
open Go.ChangeShapes Go.WideShapes Go.ChangeAt Go.RowKit
def btw (n lo hi : Int) : Bool := decide (lo ≤ n) && decide (n ≤ hi)
theorem btw_iff {n lo hi : Int} : btw n lo hi = true ↔ lo ≤ n ∧ n ≤ hi := by simp [btw]
theorem btw_not {n lo hi : Int} : btw n lo hi = false ↔ ¬ (lo ≤ n ∧ n ≤ hi) := by rw [← btw_iff]; simp
theorem between_any (n lo hi : Int) (w : World) : Calls Tryd.prog 40 #[.int .i64 n, .int .i64 lo, .int .i64 hi] w fun e w' => e = .returned (.bool (btw n lo hi)) ∧ ∃ x, w' = ext w x := by
  by_cases h1 : lo ≤ n <;> by_cases h2 : n ≤ hi
  all_goals
    go_enter Tryd.func40, Tryd.ntmps40
    go_wp2
    go_ret
    exact ⟨by simp [h1, h2, btw], ext_refl _⟩
theorem between_b (n lo hi : Int) (b : Bool) (h : btw n lo hi = b) (w : World) : Calls Tryd.prog 40 #[.int .i64 n, .int .i64 lo, .int .i64 hi] w fun e w' => e = .returned (.bool b) ∧ ∃ x, w' = ext w x := h ▸ between_any n lo hi w
theorem l1In_any (n lo hi : Int) (w : World) : Calls Tryd.prog 46 #[.int .i64 n, .int .i64 lo, .int .i64 hi] w fun e w' => e = .returned (.bool (btw n lo hi)) ∧ ∃ x, w' = ext w x := by
  by_cases h1 : lo ≤ n <;> by_cases h2 : n ≤ hi
  all_goals
    go_enter Tryd.func46, Tryd.ntmps46
    go_wp2
    go_ret
    exact ⟨by simp [h1, h2, btw], ext_refl _⟩
theorem l1In_b (n lo hi : Int) (b : Bool) (h : btw n lo hi = b) (w : World) : Calls Tryd.prog 46 #[.int .i64 n, .int .i64 lo, .int .i64 hi] w fun e w' => e = .returned (.bool b) ∧ ∃ x, w' = ext w x := h ▸ l1In_any n lo hi w
end
section
open Go.ChangeShapes Go.WideShapes Go.ChangeAt Go.RowKit
def sqRow (xss : List (List Int)) (most : Int) (i : Nat) : Bool := decide ((rAt xss i).length = xss.length) && allTo (fun k => btw (nth (rAt xss i) k) 0 most) (rAt xss i).length
def sqB (xss : List (List Int)) (rows most : Int) : Bool := allTo (sqRow xss most) xss.length && btw xss.length 1 rows
theorem sqB_no {xss : List (List Int)} {rows most : Int} {i : Nat} (h : i < xss.length) (hk : sqRow xss most i = false) : sqB xss rows most = false := by simp [sqB, allTo_false h hk]
theorem sqRow_len {xss : List (List Int)} {most : Int} {i : Nat} (h : (rAt xss i).length ≠ xss.length) : sqRow xss most i = false := by simp [sqRow, h]
theorem sqRow_no {xss : List (List Int)} {most : Int} {i k : Nat} (h : k < (rAt xss i).length) (hk : btw (nth (rAt xss i) k) 0 most = false) : sqRow xss most i = false := by
  simp [sqRow, allTo_false (p := fun k => btw (nth (rAt xss i) k) 0 most) h hk]
theorem sqRow_yes {xss : List (List Int)} {most : Int} {i : Nat} (h : (rAt xss i).length = xss.length) (h2 : allTo (fun k => btw (nth (rAt xss i) k) 0 most) (rAt xss i).length = true) : sqRow xss most i = true := by
  simp only [sqRow, h2, Bool.and_true]; exact decide_eq_true h
theorem sqB_bd {xss : List (List Int)} {rows most : Int} (h : sqB xss rows most = true) : 1 ≤ xss.length ∧ (xss.length : Int) ≤ rows ∧ ∀ i, i < xss.length → (rAt xss i).length = xss.length ∧ ∀ k, k < xss.length → 0 ≤ nth (rAt xss i) k ∧ nth (rAt xss i) k ≤ most := by
  simp only [sqB, Bool.and_eq_true, btw_iff] at h
  refine ⟨by omega, h.2.2, fun i hi => ?_⟩
  have h1 := allTo_true.1 h.1 i hi
  simp only [sqRow, Bool.and_eq_true, decide_eq_true_eq] at h1
  refine ⟨h1.1, fun k hk => ?_⟩
  exact btw_iff.1 (allTo_true.1 h1.2 k (by omega))
set_option maxHeartbeats 400000 in
theorem isSquare_any (xss : List (List Int)) (rows most : Int) (v : Value) (w : World) (h : RowsAt w v xss) :
    Calls Tryd.prog 54 #[v, .int .i64 rows, .int .i64 most] w fun e w' => e = .returned (.bool (sqB xss rows most)) ∧ ∃ x, w' = ext w x := by
  obtain ⟨a, b, o, cap, us, rfl, hc1, hc2, hc3, hcell⟩ := h.opn
  go_enter Tryd.func54, Tryd.ntmps54
  go_wp2_with fail
  go_loopw [13] (fun i wr => ∃ k : Nat, k ≤ xss.length ∧ i = .int .i64 k ∧ allTo (sqRow xss most) k = true ∧ ∃ x, wr = ext w x) (fun i _ => xss.length - (intOf i).toNat)
  case atStart => exact ⟨0, Nat.zero_le _, rfl, rfl, (by repeat (first | exact ext_refl _ | (with_reducible assumption) | refine ext_ext' ?_ _ | refine ext_alloc' ?_ _ | refine ext_drew' ?_))⟩
  case round =>
    obtain ⟨k, hk, rfl, hall, x, rfl⟩ := hrel
    have HA := Lib.hid hall
    clear hall
    by_cases hlt : k < xss.length
    · obtain ⟨hb, hi, hck, hri⟩ := hcell k hlt
      obtain ⟨a', b', o', cap', e1, hd1, hd2, hd3, hcell'⟩ := hri.opn
      rw [e1] at hck
      clear hcell e1 hri
      by_cases hne : (rAt xss k).length = xss.length
      · have hne' : (((rAt xss k).length : Int) != xss.length) = false := by simp [hne]
        have HN := Lib.hid hne
        clear hne
        go_wp2_with fail
        go_loopw [24] (fun j wr => ∃ q : Nat, q ≤ (rAt xss k).length ∧ j = .int .i64 q ∧ allTo (fun q => btw (nth (rAt xss k) q) 0 most) q = true ∧ ∃ x, wr = ext w x) (fun j _ => (rAt xss k).length - (intOf j).toNat)
        case atStart => exact ⟨0, Nat.zero_le _, rfl, rfl, (by repeat (first | exact ext_refl _ | (with_reducible assumption) | refine ext_ext' ?_ _ | refine ext_alloc' ?_ _ | refine ext_drew' ?_))⟩
        case round =>
          obtain ⟨q, hq, rfl, hall2, y, rfl⟩ := hrel
          have HA2 := Lib.hid hall2
          clear hall2
          by_cases hlt2 : q < (rAt xss k).length
          · obtain ⟨hb', hi', hck'⟩ := hcell' q hlt2
            clear hcell'
            cases hbt : btw (nth (rAt xss k) q) 0 most
            all_goals
              go_wp2_with (first | (go_at_call 40; refine (between_b _ _ _ _ hbt _).mono ?_; rintro e w' ⟨rfl, xe, rfl⟩))
            · go_ret
              exact ⟨ret_bool (sqB_no hlt (sqRow_no hlt2 hbt)).symm, (by repeat (first | exact ext_refl _ | (with_reducible assumption) | refine ext_ext' ?_ _ | refine ext_alloc' ?_ _ | refine ext_drew' ?_))⟩
            · go_roundw
              case rel => exact ⟨q + 1, hlt2, int_succ q, allTo_succ HA2.out hbt, (by repeat (first | exact ext_refl _ | (with_reducible assumption) | refine ext_ext' ?_ _ | refine ext_alloc' ?_ _ | refine ext_drew' ?_))⟩
              case measure => simp [intOf]; omega
          · have HQ := Lib.hid (show q = (rAt xss k).length by omega)
            go_wp2_with fail
            go_roundw
            case rel => exact ⟨k + 1, hlt, int_succ k, allTo_succ HA.out (sqRow_yes HN.out (by rw [← HQ.out]; exact HA2.out)), (by repeat (first | exact ext_refl _ | (with_reducible assumption) | refine ext_ext' ?_ _ | refine ext_alloc' ?_ _ | refine ext_drew' ?_))⟩
            case measure => simp [intOf]; omega
      · have hne' : (((rAt xss k).length : Int) != xss.length) = true := by simp; omega
        have HN := Lib.hid hne
        clear hne
        go_wp2_with fail
        go_ret
        exact ⟨ret_bool (sqB_no hlt (sqRow_len HN.out)).symm, (by repeat (first | exact ext_refl _ | (with_reducible assumption) | refine ext_ext' ?_ _ | refine ext_alloc' ?_ _ | refine ext_drew' ?_))⟩
    · have HK := Lib.hid (show k = xss.length by omega)
      go_wp2_with (first | (go_at_call 40; refine (between_any _ _ _ _).mono ?_; rintro e w' ⟨rfl, xe, rfl⟩))
      go_ret
      exact ⟨ret_bool (by rw [sqB, ← HK.out, HA.out]; rfl), (by repeat (first | exact ext_refl _ | (with_reducible assumption) | refine ext_ext' ?_ _ | refine ext_alloc' ?_ _ | refine ext_drew' ?_))⟩
theorem isInts_any (xss : List (List Int)) (v : Value) (w : World) (h : RowsAt w v xss) :
    Calls Tryd.prog 59 #[v] w fun e w' => e = .returned (.bool (sqB xss 16 1000000)) ∧ ∃ x, w' = ext w x := by
  obtain ⟨a, b, o, cap, us, rfl, _⟩ := h.opn
  go_enter Tryd.func59, Tryd.ntmps59
  go_wp2_with (first | (go_at_call 54; refine (isSquare_any _ _ _ _ _ (by first | (with_reducible assumption) | (with_reducible exact IntsAt.mono (by assumption) (bel_of_ext (by repeat (first | exact ext_refl _ | (with_reducible assumption) | refine ext_ext' ?_ _ | refine ext_alloc' ?_ _ | refine ext_drew' ?_)))) | (with_reducible exact RowsAt.mono (by assumption) (bel_of_ext (by repeat (first | exact ext_refl _ | (with_reducible assumption) | refine ext_ext' ?_ _ | refine ext_alloc' ?_ _ | refine ext_drew' ?_)))))).mono ?_; rintro e w' ⟨rfl, xe, rfl⟩))
  go_ret
  exact ⟨rfl, (by repeat (first | exact ext_refl _ | (with_reducible assumption) | refine ext_ext' ?_ _ | refine ext_alloc' ?_ _ | refine ext_drew' ?_))⟩
set_option maxHeartbeats 400000 in
theorem l11Square_any (xss : List (List Int)) (v : Value) (w : World) (h : RowsAt w v xss) :
    Calls Tryd.prog 57 #[v] w fun e w' => e = .returned (.bool (sqB xss 16 1000000)) ∧ ∃ x, w' = ext w x := by
  obtain ⟨a, b, o, cap, us, rfl, hc1, hc2, hc3, hcell⟩ := h.opn
  go_enter Tryd.func57, Tryd.ntmps57
  go_wp2_with fail
  go_loopw [3] (fun i wr => ∃ k : Nat, k ≤ xss.length ∧ i = .int .i64 k ∧ allTo (sqRow xss 1000000) k = true ∧ ∃ x, wr = ext w x) (fun i _ => xss.length - (intOf i).toNat)
  case atStart => exact ⟨0, Nat.zero_le _, rfl, rfl, (by repeat (first | exact ext_refl _ | (with_reducible assumption) | refine ext_ext' ?_ _ | refine ext_alloc' ?_ _ | refine ext_drew' ?_))⟩
  case round =>
    obtain ⟨k, hk, rfl, hall, x, rfl⟩ := hrel
    have HA := Lib.hid hall
    clear hall
    by_cases hlt : k < xss.length
    · obtain ⟨hb, hi, hck, hri⟩ := hcell k hlt
      obtain ⟨a', b', o', cap', e1, hd1, hd2, hd3, hcell'⟩ := hri.opn
      rw [e1] at hck
      clear hcell e1 hri
      by_cases hne : (rAt xss k).length = xss.length
      · have hne' : (((rAt xss k).length : Int) != xss.length) = false := by simp [hne]
        have HN := Lib.hid hne
        clear hne
        go_wp2_with fail
        go_loopw [4] (fun j wr => ∃ q : Nat, q ≤ (rAt xss k).length ∧ j = .int .i64 q ∧ allTo (fun q => btw (nth (rAt xss k) q) 0 1000000) q = true ∧ ∃ x, wr = ext w x) (fun j _ => (rAt xss k).length - (intOf j).toNat)
        case atStart => exact ⟨0, Nat.zero_le _, rfl, rfl, (by repeat (first | exact ext_refl _ | (with_reducible assumption) | refine ext_ext' ?_ _ | refine ext_alloc' ?_ _ | refine ext_drew' ?_))⟩
        case round =>
          obtain ⟨q, hq, rfl, hall2, y, rfl⟩ := hrel
          have HA2 := Lib.hid hall2
          clear hall2
          by_cases hlt2 : q < (rAt xss k).length
          · obtain ⟨hb', hi', hck'⟩ := hcell' q hlt2
            clear hcell'
            cases hbt : btw (nth (rAt xss k) q) 0 1000000
            all_goals
              go_wp2_with (first | (go_at_call 46; refine (l1In_b _ _ _ _ hbt _).mono ?_; rintro e w' ⟨rfl, xe, rfl⟩))
            · go_ret
              exact ⟨ret_bool (sqB_no hlt (sqRow_no hlt2 hbt)).symm, (by repeat (first | exact ext_refl _ | (with_reducible assumption) | refine ext_ext' ?_ _ | refine ext_alloc' ?_ _ | refine ext_drew' ?_))⟩
            · go_roundw
              case rel => exact ⟨q + 1, hlt2, int_succ q, allTo_succ HA2.out hbt, (by repeat (first | exact ext_refl _ | (with_reducible assumption) | refine ext_ext' ?_ _ | refine ext_alloc' ?_ _ | refine ext_drew' ?_))⟩
              case measure => simp [intOf]; omega
          · have HQ := Lib.hid (show q = (rAt xss k).length by omega)
            go_wp2_with fail
            go_roundw
            case rel => exact ⟨k + 1, hlt, int_succ k, allTo_succ HA.out (sqRow_yes HN.out (by rw [← HQ.out]; exact HA2.out)), (by repeat (first | exact ext_refl _ | (with_reducible assumption) | refine ext_ext' ?_ _ | refine ext_alloc' ?_ _ | refine ext_drew' ?_))⟩
            case measure => simp [intOf]; omega
      · have hne' : (((rAt xss k).length : Int) != xss.length) = true := by simp; omega
        have HN := Lib.hid hne
        clear hne
        go_wp2_with fail
        go_ret
        exact ⟨ret_bool (sqB_no hlt (sqRow_len HN.out)).symm, (by repeat (first | exact ext_refl _ | (with_reducible assumption) | refine ext_ext' ?_ _ | refine ext_alloc' ?_ _ | refine ext_drew' ?_))⟩
    · have HK := Lib.hid (show k = xss.length by omega)
      go_wp2_with (first | (go_at_call 46; refine (l1In_any _ _ _ _).mono ?_; rintro e w' ⟨rfl, xe, rfl⟩))
      go_ret
      exact ⟨ret_bool (by rw [sqB, ← HK.out, HA.out]; rfl), (by repeat (first | exact ext_refl _ | (with_reducible assumption) | refine ext_ext' ?_ _ | refine ext_alloc' ?_ _ | refine ext_drew' ?_))⟩
def diagTo (xss : List (List Int)) : Nat → Int := iter (fun i n => wrap64 (n + nth (rAt xss i) i)) 0
def diag (xss : List (List Int)) : Int := diagTo xss xss.length
def traceV (xss : List (List Int)) : Int := if sqB xss 16 1000000 then diag xss else 0
theorem diagonal_any (xss : List (List Int)) (v : Value) (w : World) (h : RowsAt w v xss) (hsq : ∀ i, i < xss.length → xss.length ≤ (rAt xss i).length) :
    Calls Tryd.prog 56 #[v] w fun e w' => e = .returned (.int .i64 (diag xss)) ∧ ∃ x, w' = ext w x := by
  obtain ⟨a, b, o, cap, us, rfl, hc1, hc2, hc3, hcell⟩ := h.opn
  have HQ := Lib.hid hsq
  clear hsq
  go_enter Tryd.func56, Tryd.ntmps56
  go_wp2_with fail
  go_loopw [3, 7] (fun n i wr => ∃ k : Nat, k ≤ xss.length ∧ i = .int .i64 k ∧ n = .int .i64 (diagTo xss k) ∧ ∃ x, wr = ext w x) (fun n i _ => xss.length - (intOf i).toNat)
  case atStart => exact ⟨0, Nat.zero_le _, rfl, rfl, (by repeat (first | exact ext_refl _ | (with_reducible assumption) | refine ext_ext' ?_ _ | refine ext_alloc' ?_ _ | refine ext_drew' ?_))⟩
  case round =>
    obtain ⟨k, hk, rfl, rfl, x, rfl⟩ := hrel
    by_cases hlt : k < xss.length
    · obtain ⟨hb, hi, hck, hri⟩ := hcell k hlt
      obtain ⟨a', b', o', cap', e1, hd1, hd2, hd3, hcell'⟩ := hri.opn
      rw [e1] at hck
      have hq := HQ.out k hlt
      obtain ⟨hb', hi', hck'⟩ := hcell' k (by omega)
      clear hcell e1 hri hcell'
      go_wp2_with fail
      go_roundw
      case rel => exact ⟨k + 1, hlt, int_succ k, rfl, (by repeat (first | exact ext_refl _ | (with_reducible assumption) | refine ext_ext' ?_ _ | refine ext_alloc' ?_ _ | refine ext_drew' ?_))⟩
      case measure => simp [intOf]; omega
    · have HK := Lib.hid (show k = xss.length by omega)
      go_wp2_with fail
      go_ret
      exact ⟨ret_int (by rw [HK.out]; rfl), (by repeat (first | exact ext_refl _ | (with_reducible assumption) | refine ext_ext' ?_ _ | refine ext_alloc' ?_ _ | refine ext_drew' ?_))⟩
theorem implTrace_any (xss : List (List Int)) (v : Value) (w : World) (h : RowsAt w v xss) :
    Calls Tryd.prog 27 #[v] w fun e w' => e = .returned (.int .i64 (traceV xss)) ∧ ∃ x, w' = ext w x := by
  have h0 := h
  obtain ⟨a, b, o, cap, us, rfl, _⟩ := h.opn
  have HF := Lib.hid (show traceV xss = if sqB xss 16 1000000 then diag xss else 0 from rfl)
  cases hs : sqB xss 16 1000000
  · go_enter Tryd.func27, Tryd.ntmps27
    go_wp2_with (first | (go_at_call 59; refine (isInts_any _ _ _ (by first | (with_reducible assumption) | (with_reducible exact IntsAt.mono (by assumption) (bel_of_ext (by repeat (first | exact ext_refl _ | (with_reducible assumption) | refine ext_ext' ?_ _ | refine ext_alloc' ?_ _ | refine ext_drew' ?_)))) | (with_reducible exact RowsAt.mono (by assumption) (bel_of_ext (by repeat (first | exact ext_refl _ | (with_reducible assumption) | refine ext_ext' ?_ _ | refine ext_alloc' ?_ _ | refine ext_drew' ?_)))))).mono ?_; rintro e w' ⟨rfl, xe, rfl⟩))
    go_ret
    exact ⟨ret_int (by rw [HF.out, hs]; rfl), (by repeat (first | exact ext_refl _ | (with_reducible assumption) | refine ext_ext' ?_ _ | refine ext_alloc' ?_ _ | refine ext_drew' ?_))⟩
  · have HB := Lib.hid (fun i hi => Nat.le_of_eq ((sqB_bd hs).2.2 i hi).1.symm)
    go_enter Tryd.func27, Tryd.ntmps27
    go_wp2_with (first | (go_at_call 59; refine (isInts_any _ _ _ (by first | (with_reducible assumption) | (with_reducible exact IntsAt.mono (by assumption) (bel_of_ext (by repeat (first | exact ext_refl _ | (with_reducible assumption) | refine ext_ext' ?_ _ | refine ext_alloc' ?_ _ | refine ext_drew' ?_)))) | (with_reducible exact RowsAt.mono (by assumption) (bel_of_ext (by repeat (first | exact ext_refl _ | (with_reducible assumption) | refine ext_ext' ?_ _ | refine ext_alloc' ?_ _ | refine ext_drew' ?_)))))).mono ?_; rintro e w' ⟨rfl, xe, rfl⟩) | (go_at_call 56; refine (diagonal_any _ _ _ (by first | (with_reducible assumption) | (with_reducible exact IntsAt.mono (by assumption) (bel_of_ext (by repeat (first | exact ext_refl _ | (with_reducible assumption) | refine ext_ext' ?_ _ | refine ext_alloc' ?_ _ | refine ext_drew' ?_)))) | (with_reducible exact RowsAt.mono (by assumption) (bel_of_ext (by repeat (first | exact ext_refl _ | (with_reducible assumption) | refine ext_ext' ?_ _ | refine ext_alloc' ?_ _ | refine ext_drew' ?_))))) HB.out).mono ?_; rintro e w' ⟨rfl, xe, rfl⟩))
    go_ret
    exact ⟨ret_int (by rw [HF.out, hs]; rfl), (by repeat (first | exact ext_refl _ | (with_reducible assumption) | refine ext_ext' ?_ _ | refine ext_alloc' ?_ _ | refine ext_drew' ?_))⟩
end
section
open Go.ChangeShapes Go.WideShapes Go.ChangeAt Go.RowKit
theorem cell_hd (vs : List Value) (n k : Nat) (z : Value) (hl : vs.length = k) (hk : k < n) : (vs ++ List.replicate (n - k) z)[k]? = some z := by
  rw [List.getElem?_append_right (by omega), hl, Nat.sub_self, List.getElem?_replicate, if_pos (by omega)]
end
section
open Go.ChangeShapes Go.WideShapes Go.ChangeAt Go.RowKit
def szLeftI (n : Nat) (left : Int) : Int := if left - n < 0 then -1 else left - n
theorem szLeftI_neg {n : Nat} {left : Int} (h0 : 0 ≤ left) : szLeftI n left < 0 ∨ 0 ≤ szLeftI n left ∧ szLeftI n left ≤ left ∧ (n : Int) ≤ left := by
  unfold szLeftI
  split <;> omega
theorem szLeftI_m1 {n : Nat} {left : Int} (h : szLeftI n left < 0) (h0 : 0 ≤ left) : szLeftI n left = -1 := by
  unfold szLeftI at h ⊢
  split at h <;> rename_i hh
  · rw [if_pos hh]
  · omega
end
section
open Go.ChangeShapes Go.WideShapes Go.ChangeAt Go.RowKit
theorem eraseIdx_mid {α : Type} (r o : α) (L : List α) : ([r] ++ (o :: L)).eraseIdx 1 = r :: L := rfl
end
section
open Go.ChangeShapes Go.WideShapes Go.ChangeAt Go.RowKit
def numB (x : Int) : Bool := btw x (-1000000000) 1000000000
def numsB (xs : List Int) : Bool := allTo (fun k => numB (nth xs k)) xs.length
theorem areNumbers_any (xs : List Int) (v : Value) (w : World) (h : IntsAt w v xs) :
    Calls Tryd.prog 44 #[v] w fun e w' => e = .returned (.bool (numsB xs)) ∧ ∃ x, w' = ext w x := by
  obtain ⟨a, b, o, cap, rfl, hc1, hc2, hc3, hcell⟩ := h.opn
  go_enter Tryd.func44, Tryd.ntmps44
  go_wp2_with fail
  go_loopw [4, 7] (fun x i wr => ∃ k : Nat, k ≤ xs.length ∧ i = .int .i64 k ∧ allTo (fun k => numB (nth xs k)) k = true ∧ ∃ x, wr = ext w x) (fun x i _ => xs.length - (intOf i).toNat)
  case atStart => exact ⟨0, Nat.zero_le _, rfl, rfl, ext_refl _⟩
  case round =>
    obtain ⟨k, hk, rfl, hall, x, rfl⟩ := hrel
    have hall' := Lib.hid hall
    clear hall
    by_cases hlt : k < xs.length
    · obtain ⟨hb, hi, hck⟩ := hcell k hlt
      clear hcell
      go_wp2_with (go_at_call 40; refine (between_any _ _ _ _).mono ?_; rintro e w' ⟨rfl, xe, rfl⟩)
      · go_ret
        exact ⟨ret_bool (allTo_false hlt (bool_not (by assumption))).symm, (by repeat (first | exact ext_refl _ | (with_reducible assumption) | refine ext_ext' ?_ _ | refine ext_alloc' ?_ _ | refine ext_drew' ?_))⟩
      · go_roundw
        case rel => exact ⟨k + 1, hlt, int_succ k, allTo_succ hall'.out (bool_not' (by assumption)), (by repeat (first | exact ext_refl _ | (with_reducible assumption) | refine ext_ext' ?_ _ | refine ext_alloc' ?_ _ | refine ext_drew' ?_))⟩
        case measure => simp [intOf]; omega
    · go_wp2_with fail
      go_ret
      obtain rfl : k = xs.length := by omega
      exact ⟨ret_bool hall'.out.symm, (by repeat (first | exact ext_refl _ | (with_reducible assumption) | refine ext_ext' ?_ _ | refine ext_alloc' ?_ _ | refine ext_drew' ?_))⟩
def coefB (c : List Int) : Bool := btw c.length 1 8 && numsB c
theorem isCoefficients_any (xs : List Int) (v : Value) (w : World) (h : IntsAt w v xs) :
    Calls Tryd.prog 43 #[v] w fun e w' => e = .returned (.bool (coefB xs)) ∧ ∃ x, w' = ext w x := by
  have h0 := h
  obtain ⟨a, b, o, cap, rfl, hc1, hc2, hc3, hcell⟩ := h.opn
  clear hcell
  have hx : coefB xs = (btw xs.length 1 8 && numsB xs) := rfl
  have hx' := Lib.hid hx
  clear hx
  cases hb : btw xs.length 1 8
  · go_enter Tryd.func43, Tryd.ntmps43
    go_wp2_with (first | (go_at_call 40; refine (between_b _ _ _ _ hb _).mono ?_; rintro e w' ⟨rfl, xe, rfl⟩))
    go_ret
    exact ⟨ret_bool (by rw [hx'.out, hb]; rfl), (by repeat (first | exact ext_refl _ | (with_reducible assumption) | refine ext_ext' ?_ _ | refine ext_alloc' ?_ _ | refine ext_drew' ?_))⟩
  · go_enter Tryd.func43, Tryd.ntmps43
    go_wp2_with (first | (go_at_call 40; refine (between_b _ _ _ _ hb _).mono ?_; rintro e w' ⟨rfl, xe, rfl⟩) | (go_at_call 44; refine (areNumbers_any xs _ _ (by first | (with_reducible assumption) | (with_reducible exact IntsAt.mono (by assumption) (bel_of_ext (by repeat (first | exact ext_refl _ | (with_reducible assumption) | refine ext_ext' ?_ _ | refine ext_alloc' ?_ _ | refine ext_drew' ?_)))))).mono ?_; rintro e w' ⟨rfl, xe, rfl⟩))
    go_ret
    exact ⟨ret_bool (by rw [hx'.out, hb]; rfl), (by repeat (first | exact ext_refl _ | (with_reducible assumption) | refine ext_ext' ?_ _ | refine ext_alloc' ?_ _ | refine ext_drew' ?_))⟩
def fineB (xs : List Int) : Bool := numsB xs && decide ((xs.length : Int) ≤ 40)
theorem l12Fine_any (xs : List Int) (v : Value) (w : World) (h : IntsAt w v xs) :
    Calls Tryd.prog 50 #[v] w fun e w' => e = .returned (.bool (fineB xs)) ∧ ∃ x, w' = ext w x := by
  obtain ⟨a, b, o, cap, rfl, hc1, hc2, hc3, hcell⟩ := h.opn
  go_enter Tryd.func50, Tryd.ntmps50
  go_wp2_with fail
  go_loopw [3] (fun i wr => ∃ k : Nat, k ≤ xs.length ∧ i = .int .i64 k ∧ allTo (fun k => numB (nth xs k)) k = true ∧ ∃ x, wr = ext w x) (fun i _ => xs.length - (intOf i).toNat)
  case atStart => exact ⟨0, Nat.zero_le _, rfl, rfl, ext_refl _⟩
  case round =>
    obtain ⟨k, hk, rfl, hall, x, rfl⟩ := hrel
    have hall' := Lib.hid hall
    clear hall
    by_cases hlt : k < xs.length
    · obtain ⟨hb, hi, hck⟩ := hcell k hlt
      clear hcell
      go_wp2_with (go_at_call 46; refine (l1In_any _ _ _ _).mono ?_; rintro e w' ⟨rfl, xe, rfl⟩)
      · go_ret
        refine ⟨ret_bool ?_, (by repeat (first | exact ext_refl _ | (with_reducible assumption) | refine ext_ext' ?_ _ | refine ext_alloc' ?_ _ | refine ext_drew' ?_))⟩
        have := allTo_false (p := fun k => numB (nth xs k)) hlt (bool_not (by assumption))
        simp [fineB, numsB, this]
      · go_roundw
        case rel => exact ⟨k + 1, hlt, int_succ k, allTo_succ hall'.out (bool_not' (by assumption)), (by repeat (first | exact ext_refl _ | (with_reducible assumption) | refine ext_ext' ?_ _ | refine ext_alloc' ?_ _ | refine ext_drew' ?_))⟩
        case measure => simp [intOf]; omega
    · go_wp2_with fail
      go_ret
      obtain rfl : k = xs.length := by omega
      refine ⟨ret_bool ?_, (by repeat (first | exact ext_refl _ | (with_reducible assumption) | refine ext_ext' ?_ _ | refine ext_alloc' ?_ _ | refine ext_drew' ?_))⟩
      show _ = (allTo (fun k => numB (nth xs k)) xs.length && _)
      rw [hall'.out]; rfl
end
section
open Go.ChangeShapes Go.WideShapes Go.ChangeAt Go.RowKit
def dotTo (l c : List Int) (m : Nat) : Nat → Int := iter (fun i n => wrap64 (n + wrap64 (nth c i * nth l (m - 1 - i)))) 0
theorem dotTo_succ (l c : List Int) (m k : Nat) : dotTo l c m (k + 1) = wrap64 (dotTo l c m k + wrap64 (nth c k * nth l (m - 1 - k))) := rfl
theorem l12Value_any (l c : List Int) (m : Nat) (vl vc : Value) (w : World) (hl : IntsAt w vl l) (hc : IntsAt w vc c) (h1 : c.length ≤ m) (h2 : m ≤ l.length) :
    Calls Tryd.prog 51 #[vl, vc, .int .i64 m] w fun e w' => e = .returned (.int .i64 (dotTo l c m c.length)) ∧ ∃ x, w' = ext w x := by
  obtain ⟨a, b, o, cap, rfl, hl1, hl2, hl3, hlc⟩ := hl.opn
  obtain ⟨a', b', o', cap', rfl, hc1, hc2, hc3, hcc⟩ := hc.opn
  go_enter Tryd.func51, Tryd.ntmps51
  go_wp2_with fail
  go_loopw [7, 8] (fun n i wr => ∃ k : Nat, k ≤ c.length ∧ i = .int .i64 k ∧ n = .int .i64 (dotTo l c m k) ∧ ∃ x, wr = ext w x) (fun n i _ => c.length - (intOf i).toNat)
  case atStart => exact ⟨0, Nat.zero_le _, rfl, rfl, ext_refl _⟩
  case round =>
    obtain ⟨k, hk, rfl, rfl, x, rfl⟩ := hrel
    by_cases hlt : k < c.length
    · obtain ⟨hb, hi, hck⟩ := hlc (m - 1 - k) (by omega)
      obtain ⟨hb', hi', hck'⟩ := hcc k hlt
      have e : ((m - 1 - k : Nat) : Int) = (m : Int) - 1 - (k : Int) := by omega
      rw [e] at hi
      clear hlc hcc e
      go_wp2_with fail
      refine wp_region_ext_lit (by kernel_rfl) (by kernel_rfl) ?_
      repeat (go_big_quiet_step (fail))
      refine wpQuiet_nil ?_
      intro _ hwq
      obtain ⟨xq, hwq⟩ := hwq
      subst hwq
      go_wp2_with fail
      go_roundw
      case rel => exact ⟨k + 1, hlt, int_succ k, rfl, (by repeat (first | exact ext_refl _ | (with_reducible assumption) | refine ext_ext' ?_ _ | refine ext_alloc' ?_ _ | refine ext_drew' ?_))⟩
      case measure => simp [intOf]; omega
    · go_wp2_with fail
      go_ret
      obtain rfl : k = c.length := by omega
      exact ⟨rfl, (by repeat (first | exact ext_refl _ | (with_reducible assumption) | refine ext_ext' ?_ _ | refine ext_alloc' ?_ _ | refine ext_drew' ?_))⟩
theorem dotTo_take (l c : List Int) (m : Nat) : ∀ k, dotTo (l.take m) c m k = dotTo l c m k ∨ m = 0 := by
  intro k
  by_cases hm : m = 0
  · exact .inr hm
  · left
    induction k with
    | zero => rfl
    | succ k ih => rw [dotTo_succ, dotTo_succ, ih, nth_take (by omega)]
def recB (l c : List Int) : Bool := allTo (fun j => dotTo l c (c.length + j) c.length == nth l (c.length + j)) (l.length - c.length)
def isRecB (l c : List Int) : Bool := btw c.length 1 8 && numsB c && decide ((l.length : Int) ≤ 40) && numsB l && recB l c
theorem next_any (l c : List Int) (vl vc : Value) (w : World) (hl : IntsAt w vl l) (hc : IntsAt w vc c) (h1 : c.length ≤ l.length) :
    Calls Tryd.prog 49 #[vl, vc] w fun e w' => e = .returned (.int .i64 (dotTo l c l.length c.length)) ∧ ∃ x, w' = ext w x := by
  obtain ⟨a, b, o, cap, rfl, hl1, hl2, hl3, hlc⟩ := hl.opn
  obtain ⟨a', b', o', cap', rfl, hc1, hc2, hc3, hcc⟩ := hc.opn
  go_enter Tryd.func49, Tryd.ntmps49
  go_wp2_with fail
  go_loopw [5, 6, 7, 10] (fun n i6 i7 i wr => ∃ k : Nat, k ≤ c.length ∧ i = .int .i64 k ∧ n = .int .i64 (dotTo l c l.length k) ∧ ∃ x, wr = ext w x) (fun n _ _ i _ => c.length - (intOf i).toNat)
  case atStart => exact ⟨0, Nat.zero_le _, rfl, rfl, ext_refl _⟩
  case round =>
    obtain ⟨k, hk, rfl, rfl, x, rfl⟩ := hrel
    by_cases hlt : k < c.length
    · obtain ⟨hb, hi, hck⟩ := hlc (l.length - 1 - k) (by omega)
      obtain ⟨hb', hi', hck'⟩ := hcc k hlt
      have e : ((l.length - 1 - k : Nat) : Int) = (l.length : Int) - 1 - (k : Int) := by omega
      rw [e] at hi
      clear hlc hcc e
      go_wp2_with fail
      go_roundw
      case rel => exact ⟨k + 1, hlt, int_succ k, rfl, (by repeat (first | exact ext_refl _ | (with_reducible assumption) | refine ext_ext' ?_ _ | refine ext_alloc' ?_ _ | refine ext_drew' ?_))⟩
      case measure => simp [intOf]; omega
    · go_wp2_with fail
      go_ret
      obtain rfl : k = c.length := by omega
      exact ⟨rfl, (by repeat (first | exact ext_refl _ | (with_reducible assumption) | refine ext_ext' ?_ _ | refine ext_alloc' ?_ _ | refine ext_drew' ?_))⟩
theorem next_take (l c : List Int) (a : Option Addr) (cap k : Nat) (vc : Value) (w : World) (hl : IntsAt w (.slice a l.length cap) l) (hc : IntsAt w vc c) (h0 : 1 ≤ c.length) (h1 : c.length ≤ k) (hk : k ≤ l.length) :
    Calls Tryd.prog 49 #[.slice a k cap, vc] w fun e w' => e = .returned (.int .i64 (dotTo l c k c.length)) ∧ ∃ x, w' = ext w x := by
  have hn : (l.take k).length = k := by simp; omega
  have := next_any (l.take k) c _ _ w (hl.take hk) hc (by omega)
  rw [hn, (dotTo_take l c k c.length).resolve_right (by omega)] at this
  exact this
theorem recB_no {l c : List Int} {k : Nat} (h1 : c.length ≤ k) (h2 : k < l.length) (h : dotTo l c k c.length ≠ nth l k) : recB l c = false := by
  unfold recB
  refine allTo_false (k := k - c.length) (by omega) ?_
  rw [show c.length + (k - c.length) = k by omega]
  simpa using h
theorem recurs_any (l c : List Int) (vl vc : Value) (w : World) (hl : IntsAt w vl l) (hc : IntsAt w vc c) (h0 : 1 ≤ c.length) :
    Calls Tryd.prog 45 #[vl, vc] w fun e w' => e = .returned (.bool (recB l c)) ∧ ∃ x, w' = ext w x := by
  obtain ⟨a, b, o, cap, rfl, hl1, hl2, hl3, hlc⟩ := hl.opn
  obtain ⟨a', b', o', cap', rfl, hc1, hc2, hc3, hcc⟩ := hc.opn
  clear hcc
  go_enter Tryd.func45, Tryd.ntmps45
  go_wp2_with fail
  go_loopw [5] (fun i wr => ∃ k : Nat, (k ≤ l.length ∨ k = c.length) ∧ c.length ≤ k ∧ i = .int .i64 (k : Int) ∧ (∀ j, c.length ≤ j → j < k → dotTo l c j c.length = nth l j) ∧ ∃ x, wr = ext w x) (fun i _ => l.length - (intOf i).toNat)
  case atStart => exact ⟨c.length, Or.inr rfl, Nat.le_refl _, rfl, fun j h1 h2 => absurd h1 (by omega), ext_refl _⟩
  case round =>
    obtain ⟨k, hk1, hk2, rfl, hall, x, rfl⟩ := hrel
    have hall' := Lib.hid hall
    clear hall
    by_cases hlt : k < l.length
    · obtain ⟨hb, hi, hck⟩ := hlc k hlt
      have hsl := slice_to a l.length cap k (by omega)
      clear hlc
      go_wp2_with fail
      refine wp_region_ext_lit (by kernel_rfl) (by kernel_rfl) ?_
      repeat (go_big_quiet_step ((first | (go_at_call 49; first | exact Calls_ext_of2 (next_take l c a cap k _ _ (by first | (with_reducible assumption) | (with_reducible exact IntsAt.mono (by assumption) (bel_of_ext (by repeat (first | exact ext_refl _ | (with_reducible assumption) | refine ext_ext' ?_ _ | refine ext_alloc' ?_ _ | refine ext_drew' ?_))))) (by first | (with_reducible assumption) | (with_reducible exact IntsAt.mono (by assumption) (bel_of_ext (by repeat (first | exact ext_refl _ | (with_reducible assumption) | refine ext_ext' ?_ _ | refine ext_alloc' ?_ _ | refine ext_drew' ?_))))) h0 hk2 (Nat.le_of_lt hlt)) | exact Calls_ext_of (next_take l c a cap k _ _ (by first | (with_reducible assumption) | (with_reducible exact IntsAt.mono (by assumption) (bel_of_ext (by repeat (first | exact ext_refl _ | (with_reducible assumption) | refine ext_ext' ?_ _ | refine ext_alloc' ?_ _ | refine ext_drew' ?_))))) (by first | (with_reducible assumption) | (with_reducible exact IntsAt.mono (by assumption) (bel_of_ext (by repeat (first | exact ext_refl _ | (with_reducible assumption) | refine ext_ext' ?_ _ | refine ext_alloc' ?_ _ | refine ext_drew' ?_))))) h0 hk2 (Nat.le_of_lt hlt))))))
      refine wpQuiet_nil ?_
      intro _ hwq
      obtain ⟨xq, hwq⟩ := hwq
      subst hwq
      go_wp2_with fail
      · go_ret
        exact ⟨ret_bool (recB_no hk2 hlt (by simp at *; assumption)).symm, (by repeat (first | exact ext_refl _ | (with_reducible assumption) | refine ext_ext' ?_ _ | refine ext_alloc' ?_ _ | refine ext_drew' ?_))⟩
      · go_roundw
        case rel =>
          refine ⟨k + 1, Or.inl hlt, by omega, int_succ k, fun j h1 h2 => ?_, (by repeat (first | exact ext_refl _ | (with_reducible assumption) | refine ext_ext' ?_ _ | refine ext_alloc' ?_ _ | refine ext_drew' ?_))⟩
          by_cases e : j = k
          · subst e; simp at *; assumption
          · exact hall'.out j h1 (by omega)
        case measure => simp [intOf]; omega
    · go_wp2_with fail
      go_ret
      refine ⟨ret_bool (Eq.symm (allTo_true.2 fun j hj => ?_)), (by repeat (first | exact ext_refl _ | (with_reducible assumption) | refine ext_ext' ?_ _ | refine ext_alloc' ?_ _ | refine ext_drew' ?_))⟩
      simpa using hall'.out (c.length + j) (by omega) (by omega)
theorem coefB_ge {c : List Int} (h : coefB c = true) : 1 ≤ c.length := by
  simp [coefB, btw] at h
  omega
theorem isRecSpec_any (l c : List Int) (vl vc : Value) (w : World) (hl : IntsAt w vl l) (hc : IntsAt w vc c) :
    Calls Tryd.prog 28 #[vl, vc] w fun e w' => e = .returned (.bool (isRecB l c)) ∧ ∃ x, w' = ext w x := by
  have hl0 := hl
  have hc0 := hc
  obtain ⟨a, b, o, cap, rfl, hl1, hl2, hl3, hlc⟩ := hl.opn
  obtain ⟨a', b', o', cap', rfl, hc1, hc2, hc3, hcc⟩ := hc.opn
  clear hcc hl hc
  by_cases hok : numsB l = true ∧ decide ((l.length : Int) ≤ 40) = true ∧ numsB c = true ∧ decide ((c.length : Int) ≤ 40) = true ∧ c.length ≠ 0 ∧ c.length ≤ 8
  · obtain ⟨h1, h2, h3, h4, h5, h6⟩ := hok
    have h7 : isRecB l c = recB l c := by
      have : btw c.length 1 8 = true := btw_iff.2 ⟨by omega, by omega⟩
      simp only [isRecB, this, h1, h2, h3, Bool.true_and]
    have HF := Lib.hid h7
    have H1 : fineB l = true := by rw [fineB, h1, h2]; rfl
    have H2 : fineB c = true := by rw [fineB, h3, h4]; rfl
    have H3 : ((c.length : Int) == 0) = false := beq_eq_false_iff_ne.2 (by omega)
    have H4 : decide (8 < (c.length : Int)) = false := by simp; omega
    have h8 : (c.length : Int) ≤ 8 := by omega
    clear h7 h2 h4
    go_enter Tryd.func28, Tryd.ntmps28
    go_wp2_with (first | (go_at_call 50; refine (l12Fine_any _ _ _ (by first | (with_reducible assumption) | (with_reducible exact IntsAt.mono (by assumption) (bel_of_ext (by repeat (first | exact ext_refl _ | (with_reducible assumption) | refine ext_ext' ?_ _ | refine ext_alloc' ?_ _ | refine ext_drew' ?_)))))).mono ?_; rintro e w' ⟨rfl, xe, rfl⟩))
    go_loopw [5] (fun i wr => ∃ k : Nat, (k ≤ l.length ∨ k = c.length) ∧ c.length ≤ k ∧ i = .int .i64 (k : Int) ∧ (∀ j, c.length ≤ j → j < k → dotTo l c j c.length = nth l j) ∧ ∃ x, wr = ext w x) (fun i _ => l.length - (intOf i).toNat)
    case atStart => exact ⟨c.length, Or.inr rfl, Nat.le_refl _, rfl, fun j h1 h2 => absurd h1 (by omega), (by repeat (first | exact ext_refl _ | (with_reducible assumption) | refine ext_ext' ?_ _ | refine ext_alloc' ?_ _ | refine ext_drew' ?_))⟩
    case round =>
      obtain ⟨k, hk1, hk2, rfl, hall, x, rfl⟩ := hrel
      have hall' := Lib.hid hall
      clear hall
      by_cases hlt : k < l.length
      · obtain ⟨hb, hi, hck⟩ := hlc k hlt
        clear hlc
        go_wp2_with fail
        refine wp_region_ext_lit (by kernel_rfl) (by kernel_rfl) ?_
        repeat (go_big_quiet_step ((first | (go_at_call 51; first | exact Calls_ext_of2 (l12Value_any l c k _ _ _ (by first | (with_reducible assumption) | (with_reducible exact IntsAt.mono (by assumption) (bel_of_ext (by repeat (first | exact ext_refl _ | (with_reducible assumption) | refine ext_ext' ?_ _ | refine ext_alloc' ?_ _ | refine ext_drew' ?_))))) (by first | (with_reducible assumption) | (with_reducible exact IntsAt.mono (by assumption) (bel_of_ext (by repeat (first | exact ext_refl _ | (with_reducible assumption) | refine ext_ext' ?_ _ | refine ext_alloc' ?_ _ | refine ext_drew' ?_))))) hk2 (Nat.le_of_lt hlt)) | exact Calls_ext_of (l12Value_any l c k _ _ _ (by first | (with_reducible assumption) | (with_reducible exact IntsAt.mono (by assumption) (bel_of_ext (by repeat (first | exact ext_refl _ | (with_reducible assumption) | refine ext_ext' ?_ _ | refine ext_alloc' ?_ _ | refine ext_drew' ?_))))) (by first | (with_reducible assumption) | (with_reducible exact IntsAt.mono (by assumption) (bel_of_ext (by repeat (first | exact ext_refl _ | (with_reducible assumption) | refine ext_ext' ?_ _ | refine ext_alloc' ?_ _ | refine ext_drew' ?_))))) hk2 (Nat.le_of_lt hlt))))))
        refine wpQuiet_nil ?_
        intro _ hwq
        obtain ⟨xq, hwq⟩ := hwq
        subst hwq
        go_wp2_with fail
        · go_ret
          exact ⟨ret_bool (by rw [HF.out, recB_no hk2 hlt (by simp at *; assumption)]), (by repeat (first | exact ext_refl _ | (with_reducible assumption) | refine ext_ext' ?_ _ | refine ext_alloc' ?_ _ | refine ext_drew' ?_))⟩
        · go_roundw
          case rel =>
            refine ⟨k + 1, Or.inl hlt, by omega, int_succ k, fun j h1 h2 => ?_, (by repeat (first | exact ext_refl _ | (with_reducible assumption) | refine ext_ext' ?_ _ | refine ext_alloc' ?_ _ | refine ext_drew' ?_))⟩
            by_cases e : j = k
            · subst e; simp at *; assumption
            · exact hall'.out j h1 (by omega)
          case measure => simp [intOf]; omega
      · go_wp2_with fail
        go_ret
        have hr : recB l c = true := allTo_true.2 fun j hj => by simpa using hall'.out (c.length + j) (by omega) (by omega)
        exact ⟨ret_bool (by rw [HF.out, hr]), (by repeat (first | exact ext_refl _ | (with_reducible assumption) | refine ext_ext' ?_ _ | refine ext_alloc' ?_ _ | refine ext_drew' ?_))⟩
  · have HF : isRecB l c = false := by
      cases h : isRecB l c with
      | false => rfl
      | true =>
        exfalso
        simp only [isRecB, Bool.and_eq_true, btw_iff] at h
        refine hok ⟨h.1.2, h.1.1.2, h.1.1.1.2, by simp; omega, by omega, by omega⟩
    have HF := Lib.hid HF
    have HOK := Lib.hid hok
    clear hok
    cases h1 : fineB l
    · go_enter Tryd.func28, Tryd.ntmps28
      go_wp2_with (first | (go_at_call 50; refine (l12Fine_any _ _ _ (by first | (with_reducible assumption) | (with_reducible exact IntsAt.mono (by assumption) (bel_of_ext (by repeat (first | exact ext_refl _ | (with_reducible assumption) | refine ext_ext' ?_ _ | refine ext_alloc' ?_ _ | refine ext_drew' ?_)))))).mono ?_; rintro e w' ⟨rfl, xe, rfl⟩))
      go_ret
      exact ⟨ret_bool HF.out.symm, (by repeat (first | exact ext_refl _ | (with_reducible assumption) | refine ext_ext' ?_ _ | refine ext_alloc' ?_ _ | refine ext_drew' ?_))⟩
    cases h2 : fineB c
    · go_enter Tryd.func28, Tryd.ntmps28
      go_wp2_with (first | (go_at_call 50; refine (l12Fine_any _ _ _ (by first | (with_reducible assumption) | (with_reducible exact IntsAt.mono (by assumption) (bel_of_ext (by repeat (first | exact ext_refl _ | (with_reducible assumption) | refine ext_ext' ?_ _ | refine ext_alloc' ?_ _ | refine ext_drew' ?_)))))).mono ?_; rintro e w' ⟨rfl, xe, rfl⟩))
      go_ret
      exact ⟨ret_bool HF.out.symm, (by repeat (first | exact ext_refl _ | (with_reducible assumption) | refine ext_ext' ?_ _ | refine ext_alloc' ?_ _ | refine ext_drew' ?_))⟩
    by_cases h3 : c.length = 0
    · have h3' : ((c.length : Int) == 0) = true := beq_iff_eq.2 (by omega)
      clear h3
      go_enter Tryd.func28, Tryd.ntmps28
      go_wp2_with (first | (go_at_call 50; refine (l12Fine_any _ _ _ (by first | (with_reducible assumption) | (with_reducible exact IntsAt.mono (by assumption) (bel_of_ext (by repeat (first | exact ext_refl _ | (with_reducible assumption) | refine ext_ext' ?_ _ | refine ext_alloc' ?_ _ | refine ext_drew' ?_)))))).mono ?_; rintro e w' ⟨rfl, xe, rfl⟩))
      go_ret
      exact ⟨ret_bool HF.out.symm, (by repeat (first | exact ext_refl _ | (with_reducible assumption) | refine ext_ext' ?_ _ | refine ext_alloc' ?_ _ | refine ext_drew' ?_))⟩
    have h3' : ((c.length : Int) == 0) = false := beq_eq_false_iff_ne.2 (by omega)
    by_cases h4 : 8 < c.length
    · have h4' : (8 : Int) < c.length := by omega
      clear h3 h4
      go_enter Tryd.func28, Tryd.ntmps28
      go_wp2_with (first | (go_at_call 50; refine (l12Fine_any _ _ _ (by first | (with_reducible assumption) | (with_reducible exact IntsAt.mono (by assumption) (bel_of_ext (by repeat (first | exact ext_refl _ | (with_reducible assumption) | refine ext_ext' ?_ _ | refine ext_alloc' ?_ _ | refine ext_drew' ?_)))))).mono ?_; rintro e w' ⟨rfl, xe, rfl⟩))
      go_ret
      exact ⟨ret_bool HF.out.symm, (by repeat (first | exact ext_refl _ | (with_reducible assumption) | refine ext_ext' ?_ _ | refine ext_alloc' ?_ _ | refine ext_drew' ?_))⟩
    · exfalso
      simp only [fineB, Bool.and_eq_true] at h1 h2
      exact HOK.out ⟨h1.1, h1.2, h2.1, h2.2, h3, by omega⟩
theorem isRec_any (l c : List Int) (vl vc : Value) (w : World) (hl : IntsAt w vl l) (hc : IntsAt w vc c) :
    Calls Tryd.prog 15 #[vl, vc] w fun e w' => e = .returned (.bool (isRecB l c)) ∧ ∃ x, w' = ext w x := by
  have hl0 := hl
  have hc0 := hc
  obtain ⟨a, b, o, cap, rfl, hl1, hl2, hl3, hlc⟩ := hl.opn
  obtain ⟨a', b', o', cap', rfl, hc1, hc2, hc3, hcc⟩ := hc.opn
  clear hcc hlc hl hc
  have HF := Lib.hid (show isRecB l c = (coefB c && decide ((l.length : Int) ≤ 40) && numsB l && recB l c) from rfl)
  cases h1 : coefB c
  · go_enter Tryd.func15, Tryd.ntmps15
    go_wp2_with (first | (go_at_call 43; refine (isCoefficients_any c _ _ hc0).mono ?_; rintro e w' ⟨rfl, xe, rfl⟩))
    go_ret
    exact ⟨ret_bool (by rw [HF.out, h1]; rfl), (by repeat (first | exact ext_refl _ | (with_reducible assumption) | refine ext_ext' ?_ _ | refine ext_alloc' ?_ _ | refine ext_drew' ?_))⟩
  have hge := coefB_ge h1
  have h22 : decide ((l.length : Int) ≤ 40) = true ∨ decide ((l.length : Int) ≤ 40) = false := by cases decide ((l.length : Int) ≤ 40) <;> simp
  rcases h22 with h2 | h2
  · cases h3 : numsB l
    all_goals
      go_enter Tryd.func15, Tryd.ntmps15
      go_wp2_with (first | (go_at_call 43; refine (isCoefficients_any c _ _ hc0).mono ?_; rintro e w' ⟨rfl, xe, rfl⟩) | (go_at_call 44; refine (areNumbers_any l _ _ (by first | (with_reducible assumption) | (with_reducible exact IntsAt.mono (by assumption) (bel_of_ext (by repeat (first | exact ext_refl _ | (with_reducible assumption) | refine ext_ext' ?_ _ | refine ext_alloc' ?_ _ | refine ext_drew' ?_)))))).mono ?_; rintro e w' ⟨rfl, xe, rfl⟩) | (go_at_call 45; refine (recurs_any l c _ _ _ (by first | (with_reducible assumption) | (with_reducible exact IntsAt.mono (by assumption) (bel_of_ext (by repeat (first | exact ext_refl _ | (with_reducible assumption) | refine ext_ext' ?_ _ | refine ext_alloc' ?_ _ | refine ext_drew' ?_))))) (by first | (with_reducible assumption) | (with_reducible exact IntsAt.mono (by assumption) (bel_of_ext (by repeat (first | exact ext_refl _ | (with_reducible assumption) | refine ext_ext' ?_ _ | refine ext_alloc' ?_ _ | refine ext_drew' ?_))))) hge).mono ?_; rintro e w' ⟨rfl, xe, rfl⟩))
      go_ret
      exact ⟨ret_bool (by rw [HF.out, h1, h3, h2]; rfl), (by repeat (first | exact ext_refl _ | (with_reducible assumption) | refine ext_ext' ?_ _ | refine ext_alloc' ?_ _ | refine ext_drew' ?_))⟩
  · have H2 := Lib.hid h2
    go_enter Tryd.func15, Tryd.ntmps15
    go_wp2_with (first | (go_at_call 43; refine (isCoefficients_any c _ _ hc0).mono ?_; rintro e w' ⟨rfl, xe, rfl⟩))
    go_ret
    exact ⟨ret_bool (by rw [HF.out, h1, H2.out]; rfl), (by repeat (first | exact ext_refl _ | (with_reducible assumption) | refine ext_ext' ?_ _ | refine ext_alloc' ?_ _ | refine ext_drew' ?_))⟩
end
section
open Go.ChangeShapes Go.WideShapes Go.ChangeAt Go.RowKit
theorem Held.nilI {W0 w : World} {L : List Row} (H : Held W0 w L) : Held W0 w (⟨.slice none 0 0, 3, 1, 0, []⟩ :: L) := ⟨H.bel, (fun r hr => by
  rcases List.mem_cons.1 hr with rfl | hr
  · exact World.ownsRow_nil _ _ _ _
  · exact H.own r hr), List.Pairwise.cons (fun r hr g hg => by simp [Value.ownBlock] at hg) H.apart⟩
theorem one_lit (x : Int) : ∀ u ∈ [Value.int .i64 x], u.oneCell' = true := by intro u hu; simp at hu; subst hu; rfl
theorem Held.snoc {W0 w : World} {L : List Row} {v : Value} {xs : List Int} {x : Int} (H : Held W0 w (⟨v, 3, 1, xs.length + 1, xs.map iv ++ [.int .i64 x]⟩ :: L)) : Held W0 w (rowI v (xs ++ [x]) :: L) := by
  have e : (xs ++ [x]).map iv = xs.map iv ++ [.int .i64 x] := by simp [iv]
  rw [rowI, e, List.length_append]; exact H
theorem Held.first {W0 w : World} {L : List Row} {r : Row} (H : Held W0 w (r :: L)) : Held W0 w [r] := ⟨H.bel, fun q hq => by simp at hq; subst hq; exact H.own _ List.mem_cons_self, by simp⟩
theorem Held.rowV {W0 w : World} {L : List Row} {v : Value} {xs : List Int} (H : Held W0 w (rowI v xs :: L)) : ∃ a c, v = .slice a xs.length c := own_slice (H.own _ List.mem_cons_self)
theorem Held.base {W0 W1 w : World} {L : List Row} (hb : Below W0.heap.size W0 W1) (H : Held W1 w L) : Held W0 w L :=
  ⟨hb.trans (H.bel.mono hb.size), fun r hr => own_base (H.own r hr) hb.size, H.apart⟩
theorem Held.unbox {w wr : World} {o : Obj} {L : List Row} (H : Held (w.alloc o) wr L) : Held w wr L := H.base ((Below.refl _ _).alloc (Nat.le_refl _) _)
theorem Held.box2 {w wr : World} {u v : Value} {t : TypeId} {L : List Row} (H : Held (w.alloc (.cells #[u, v] t)) wr L) : wr.cell? ⟨w.heap.size, 0, none⟩ = some u ∧ wr.cell? ⟨w.heap.size, 1, none⟩ = some v := by
  have h := fun i => H.bel.cell (p := ⟨w.heap.size, i, none⟩) (by rw [World.size_alloc]; simp)
  exact ⟨by rw [h, World.cell?_alloc_at _ _ _ _ rfl]; rfl, by rw [h, World.cell?_alloc_at _ _ _ _ rfl]; rfl⟩
theorem Held.boxOld {w wr : World} {o : Obj} {L : List Row} (H : Held (w.alloc o) wr L) : Old wr w.heap.size := ⟨by have := H.bel.size; rw [World.size_alloc] at this; omega⟩
def IntsPost (w : World) (xs : List Int) (e : Ending) (w' : World) : Prop := ∃ v', e = .returned v' ∧ Held w w' [rowI v' xs]
theorem IntsPost.nil {w w' : World} {xs : List Int} (h : xs = []) (hx : ∃ x, w' = ext w x) : IntsPost w xs (.returned (.slice none 0 0)) w' := by
  subst h; exact ⟨_, rfl, (((Held.start w).to hx).nilI)⟩
theorem IntsPost.empty {w w' : World} {xs : List Int} {v : Value} {L : List Row} (h : xs = []) (H : Held w w' (⟨v, 3, 1, 0, []⟩ :: L)) : IntsPost w xs (.returned v) w' := by
  subst h; exact ⟨_, rfl, H.first⟩
theorem IntsPost.got {w w' : World} {xs ys : List Int} {v : Value} {L : List Row} (h : xs = ys) (H : Held w w' (rowI v ys :: L)) : IntsPost w xs (.returned v) w' := by
  subst h; exact ⟨_, rfl, H.first⟩
theorem takeI_held {W0 w w' : World} {L : List Row} {v : Value} {xs : List Int} (H : Held W0 w L) (hx : ∃ x, w' = ext w x) (K : OwnI w' w.heap.size v xs) : Held W0 w' (rowI v xs :: L) := H.push (bel_of_ext hx) K
theorem Held.take1 {W0 w w' : World} {L : List Row} {v : Value} {xs : List Int} (H : Held W0 w L) (K : Held w w' [rowI v xs]) : Held W0 w' (rowI v xs :: L) := H.join K
theorem wpList_make_any {P : Program} {W0 : World} {w : World} {L : List Row} {ops : Array Oper} {rest : List Oper} {o : Oper} {a : Act} {Q : Exit → Act → World → Prop}
    (hg : o.guard = none) (l c : Operand) (t : TypeId) (hop : o.op = Op.makeSlice t l c) {e size bytes : Nat} {z : Value} (E : Elem P t e size bytes z) (H : Held W0 w L)
    (kl kc : IntKind) (N C : Int) (n : Nat) (hl : a.eval l = .int kl N) (hc : a.eval c = .int kc C) (hL : N = (n : Int)) (hC : C = (n : Int)) (b2 : bytes * n ≤ 281474976710656) (b3 : n ≤ maxLen)
    (hK : ∀ g w', Held W0 w' (⟨.slice (some ⟨g, 0, none⟩) n n, e, size, n, (madeCells z.cells (n * size)).toList⟩ :: L) → wpList P ops Q rest (a.put o.dst (.slice (some ⟨g, 0, none⟩) n n)) w') :
    wpList P ops Q (o :: rest) a w := wpList_make_held hg l c t hop E H kl kc N C n hl hc hL hC b2 b3 (hK _)
theorem Held.oldRow {W0 w : World} {L : List Row} {g n cap : Nat} {xs : List Int} (H : Held W0 w (rowI (.slice (some ⟨g, 0, none⟩) n cap) xs :: L)) : Old w g := ⟨((H.own _ List.mem_cons_self).lt g rfl).2⟩
/-! ### a drawn region whose first operations only read what was there when the call began, and that then appends -/
theorem wp_region_heldB {P : Program} {W0 : World} {id : Nat} {Q : Exit → Act → World → Prop} {a : Act} {w : World} {ops : Array Oper} (_ : Below W0.heap.size W0 w) (hm : P.follows .mixedOrders = true)
    (h : wpAnyH P .any ops Q (fun w' => Below W0.heap.size W0 w') ops.size (Array.replicate ops.size false) a w.drew) : (Code.region id ops true).wp P Q a w :=
  wp_region_held hm h
theorem takeB {P : Program} {ops : Array Oper} {Q : Exit → Act → World → Prop} {W0 : World} {i : Nat} {oi : Oper} {v : Value} {fuel : Nat} {listed : Array Bool} {a : Act} {w : World} (hi : ops[i]? = some oi)
    (hs : Region.noSelect ops = true) (hf : Region.free .any ops listed i = true) (hr : (Region.ready .any ops listed).contains i = true)
    (hQ : ∀ c a w, Q (.panic c) (a.put oi.dst v) w → Q (.panic c) a w) (hw : Region.wanted oi (yielded ops a.tmps) = true) (hy : ∀ w', Below W0.heap.size W0 w' → (execOp a.eval oi).run P w' = .ok (.value v) w') (hS : Below W0.heap.size W0 w)
    (h : wpAnyH P .any ops Q (fun w' => Below W0.heap.size W0 w') fuel (listed.setIfInBounds i true) (a.put oi.dst v) w) : wpAnyH P .any ops Q (fun w' => Below W0.heap.size W0 w') (fuel + 1) listed a w :=
  wpAnyH_take hi hs hf hr hQ (.inl ⟨hw, hy⟩) hS h
theorem below_box2 {w wr : World} {u v : Value} {t : TypeId} (hb : Below (w.alloc (.cells #[u, v] t)).heap.size (w.alloc (.cells #[u, v] t)) wr) : wr.cell? ⟨w.heap.size, 0, none⟩ = some u ∧ wr.cell? ⟨w.heap.size, 1, none⟩ = some v :=
  Held.box2 (L := []) ⟨hb, (fun r h => by cases h), List.Pairwise.nil⟩
theorem opwp_append_held {P : Program} {W0 : World} {w : World} {L : List Row} {o : Oper} {a : Act} {K : Act → World → Prop} {Q : Exit → Act → World → Prop} (s x : Operand) (t : TypeId)
    (ho : o.op = .call { callee := .builtin .append, args := #[s, x], argTypes := #[t, t] })
    {e size bytes : Nat} {z : Value} (E : Elem P t e size bytes z) {v u : Value} {n m : Nat} {xs news : List Value} (H : Held W0 w (⟨v, e, size, n, xs⟩ :: L)) (hs : a.eval s = v) (hx : a.eval x = u) (hsl : Sl w size u m news) (h1 : ∀ u ∈ news, u.oneCell' = true)
    (h63 : n + m ≤ maxLen) (hbytes : (n + m) * bytes ≤ 140737488355328)
    (h : ∀ v' w', Held W0 w' (⟨v', e, size, n + m, xs ++ news⟩ :: L) → K (a.put o.dst v') w') : Oper.wp P o a w K Q := by
  obtain ⟨v', w', hr, h2, h3, h4⟩ := run_append_sl (P := P) w W0.heap.size t o.type e z size bytes E v u n m xs news (H.own _ List.mem_cons_self) hsl h1 h63 hbytes H.le
  unfold Oper.wp execOp
  simp only [ho, resolve, invoke, builtin, Sem.run_bind, Sem.run_pure, Result.andThen_ok, List.map_toArray, List.map_cons, List.map_nil, hs, hx, hr]
  exact h v' w' (H.append h3 h2 h4)
theorem Sl_newAt (w : World) (u : Value) (t : TypeId) (b : Nat) (h : w.heap.size = b) : Sl (w.alloc (.cells #[u] t)) 1 (.slice (some ⟨b, 0, none⟩) 1 1) 1 [u] := by subst h; exact Sl_new1 w u t
theorem opwp_make_any {P : Program} {W0 : World} {w : World} {L : List Row} {o : Oper} {a : Act} {K : Act → World → Prop} {Q : Exit → Act → World → Prop}
    (l c : Operand) (t : TypeId) (hop : o.op = Op.makeSlice t l c) {e size bytes : Nat} {z : Value} (E : Elem P t e size bytes z) (H : Held W0 w L)
    (kl kc : IntKind) (N C : Int) (n : Nat) (hl : a.eval l = .int kl N) (hc : a.eval c = .int kc C) (hL : N = (n : Int)) (hC : C = (n : Int)) (b2 : bytes * n ≤ 281474976710656) (b3 : n ≤ maxLen)
    (hK : ∀ g w', Held W0 w' (⟨.slice (some ⟨g, 0, none⟩) n n, e, size, n, (madeCells z.cells (n * size)).toList⟩ :: L) → w.grownBy w' none → K (a.put o.dst (.slice (some ⟨g, 0, none⟩) n n)) w') : Oper.wp P o a w K Q := by
  obtain ⟨i, hi, hz, hsize, hby⟩ := info_parts E.info
  obtain ⟨w', hrun, r1, r2⟩ := run_make_full (P := P) w w.heap.size t e i z size E.ut hi hz hsize kl kc n (by rw [hby]; exact b2) b3 (Nat.le_refl _)
  subst hL
  subst hC
  unfold Oper.wp
  simp [execOp, hop, hl, hc, hrun, Result.andThen]
  exact hK _ _ (H.push ((Below.refl _ _).grown r2 (Nat.le_refl _) (fun k hk => by cases hk)) r1) r2
theorem wp_region_heldS {P : Program} {S : World → Prop} {id : Nat} {Q : Exit → Act → World → Prop} {a : Act} {w : World} {ops : Array Oper} (hm : P.follows .mixedOrders = true)
    (h : wpAnyH P .any ops Q S ops.size (Array.replicate ops.size false) a w.drew) : (Code.region id ops true).wp P Q a w := wp_region_held hm h
theorem takeS {P : Program} {ops : Array Oper} {Q : Exit → Act → World → Prop} {S : World → Prop} {i : Nat} {oi : Oper} {v : Value} {fuel : Nat} {listed : Array Bool} {a : Act} {w : World} (hi : ops[i]? = some oi)
    (hs : Region.noSelect ops = true) (hf : Region.free .any ops listed i = true) (hr : (Region.ready .any ops listed).contains i = true)
    (hQ : ∀ c a w, Q (.panic c) (a.put oi.dst v) w → Q (.panic c) a w) (hw : Region.wanted oi (yielded ops a.tmps) = true) (hy : ∀ w', S w' → (execOp a.eval oi).run P w' = .ok (.value v) w') (hS : S w)
    (h : wpAnyH P .any ops Q S fuel (listed.setIfInBounds i true) (a.put oi.dst v) w) : wpAnyH P .any ops Q S (fuel + 1) listed a w :=
  wpAnyH_take hi hs hf hr hQ (.inl ⟨hw, hy⟩) hS h
end
section
open Go.ChangeShapes Go.WideShapes Go.ChangeAt Go.RowKit
def nxt (c out : List Int) : Int := dotTo out c out.length c.length
def extTo (l c : List Int) : Nat → List Int := iter (fun _ out => out ++ [nxt c out]) l
theorem extTo_succ (l c : List Int) (k : Nat) : extTo l c (k + 1) = extTo l c k ++ [nxt c (extTo l c k)] := rfl
theorem extTo_len (l c : List Int) (k : Nat) : (extTo l c k).length = l.length + k := by
  induction k with
  | zero => rfl
  | succ k ih => rw [extTo_succ, List.length_append, ih]; rfl
def extOK (l c : List Int) (k : Nat) : Bool := numB (nxt c (extTo l c k))
def preB (l c : List Int) (n : Int) : Bool := coefB c && decide (l.length ≤ 40) && numsB l && decide (c.length ≤ l.length) && btw n 0 20 && decide ((l.length : Int) + n ≤ 40)
def extV (l c : List Int) (n : Int) : Option (List Int) := if preB l c n && allTo (extOK l c) n.toNat then some (extTo l c n.toNat) else none
theorem extV_pre {l c : List Int} {n : Int} (h : preB l c n = false) : extV l c n = none := by simp [extV, h]
theorem extV_no {l c : List Int} {n : Int} {k : Nat} (hk : k < n.toNat) (h : extOK l c k = false) : extV l c n = none := by simp [extV, allTo_false hk h]
theorem extV_yes {l c : List Int} {n : Int} (h : preB l c n = true) (h2 : allTo (extOK l c) n.toNat = true) : extV l c n = some (extTo l c n.toNat) := by simp [extV, h, h2]
theorem numsB_snoc (xs : List Int) (x : Int) (h : numsB xs = true) : numsB (xs ++ [x]) = numB x := by
  have e : ∀ k, k < xs.length → nth (xs ++ [x]) k = nth xs k := fun k hk => by simp [nth, List.getD, List.getElem?_append_left hk]
  have e2 : nth (xs ++ [x]) xs.length = x := by simp [nth]
  have h' := allTo_true.1 h
  cases hx : numB x with
  | true =>
    unfold numsB
    rw [allTo_true]
    intro k hk
    by_cases hk2 : k < xs.length
    · rw [e k hk2]; exact h' k hk2
    · have : k = xs.length := by simp at hk; omega
      rw [this, e2, hx]
  | false => exact allTo_false (k := xs.length) (by simp) (by rw [e2, hx])
/-- the pair that both return -/
def ExtPost (w : World) (r : Option (List Int)) (e : Ending) (w' : World) : Prop :=
  ∃ v', e = .returned (.tuple #[v', .bool r.isSome]) ∧ (∃ x, w' = ext w x) ∧ OwnI w' w.heap.size v' (r.getD [])
theorem ExtPost.fail {w w' : World} {r : Option (List Int)} (h : r = none) (hx : ∃ x, w' = ext w x) : ExtPost w r (.returned (.tuple #[.slice none 0 0, .bool false])) w' := by
  subst h; exact ⟨_, rfl, hx, World.ownsRow_nil _ _ _ _⟩
theorem Held.whole {W0 w : World} {L : List Row} {v : Value} {xs : List Int} (H : Held W0 w (⟨v, 3, 1, 0 + xs.length, [] ++ xs.map iv⟩ :: L)) : Held W0 w (rowI v xs :: L) := by
  rw [Nat.zero_add, List.nil_append] at H; exact H
theorem copyInts_any (xs : List Int) (v : Value) (w : World) (h : IntsAt w v xs) (hs : xs.length ≤ 1099511627776) :
    Calls Tryd.prog 48 #[v] w fun e w' => ∃ v', e = .returned v' ∧ Held w w' [rowI v' xs] := by
  go_enter Tryd.func48, Tryd.ntmps48
  go_wp2_with (first | (at_builtin; refine wpList_append_held rfl _ _ _ rfl elemInt ((Held.start w).to (by repeat (first | exact ext_refl _ | (with_reducible assumption) | refine ext_ext' ?_ _ | refine ext_alloc' ?_ _ | refine ext_drew' ?_))).nilI rfl rfl (by exact h) (ints_oneCell _ _) (by unfold maxLen; omega) (by omega) ?_; intro v' w' H))
  go_ret
  exact ⟨_, rfl, H.whole⟩
theorem preB_mk {l c : List Int} {n : Int} (h1 : coefB c = true) (h2 : l.length ≤ 40) (h3 : numsB l = true) (h4 : c.length ≤ l.length) (h5 : btw n 0 20 = true) (h6 : (l.length : Int) + n ≤ 40) : preB l c n = true := by
  simp [preB, h1, h2, h3, h4, h5, h6]
theorem ExtPost.got {w w' : World} {r : Option (List Int)} {v : Value} {xs : List Int} (h : r = Option.some xs) (H : Held w w' [rowI v xs]) : ExtPost w r (.returned (.tuple #[v, .bool true])) w' := by
  subst h; exact ⟨_, rfl, ext_of H.bel, H.own _ List.mem_cons_self⟩
theorem ExtPost.no {w w' : World} {r : Option (List Int)} {L : List Row} (h : r = Option.none) (H : Held w w' L) : ExtPost w r (.returned (.tuple #[.slice none 0 0, .bool false])) w' := ExtPost.fail h (ext_of H.bel)
theorem extV_all {l c : List Int} {m k : Nat} (h : preB l c m = true) (hk : k = m) (h2 : allTo (extOK l c) k = true) : extV l c m = Option.some (extTo l c k) := by
  subst hk
  have e : (k : Int).toNat = k := by simp
  have := extV_yes h (by rw [e]; exact h2)
  rw [e] at this; exact this
theorem extV_cut {l c : List Int} {m k : Nat} (hk : k < m) (h2 : extOK l c k = false) : extV l c m = Option.none := extV_no (by simp; omega) h2
theorem next_nxt (l c : List Int) (vl vc : Value) (w : World) (hl : IntsAt w vl l) (hc : IntsAt w vc c) (h1 : c.length ≤ l.length) :
    Calls Tryd.prog 49 #[vl, vc] w fun e w' => e = .returned (.int .i64 (nxt c l)) ∧ ∃ x, w' = ext w x := next_any l c vl vc w hl hc h1
set_option maxHeartbeats 2000000 in
theorem implExtend_any (l c : List Int) (n : Int) (vl vc : Value) (w : World) (hl : IntsAt w vl l) (hc : IntsAt w vc c) (wn : (Lit.int .i64 n).wf = true) :
    Calls Tryd.prog 18 #[vl, vc, .int .i64 n] w (ExtPost w (extV l c n)) := by
  have hl0 := hl
  have hc0 := hc
  obtain ⟨a, b, o, cap, rfl, hl1, hl2, hl3, hlc⟩ := hl.opn
  obtain ⟨a', b', o', cap', rfl, hc1, hc2, hc3, hcc⟩ := hc.opn
  clear hcc hlc hl hc
  have hn63 : -9223372036854775808 ≤ n ∧ n ≤ 9223372036854775807 := by simpa [Lit.wf, IntKind.min, IntKind.max, IntKind.signed, IntKind.bits] using wn
  obtain ⟨n63, n63'⟩ := hn63
  by_cases hp : preB l c n = true
  · have HP := Lib.hid hp
    simp only [preB, Bool.and_eq_true, decide_eq_true_eq, btw_iff] at hp
    obtain ⟨⟨⟨⟨⟨p1, p2⟩, p3⟩, p4⟩, p5⟩, p6⟩ := hp
    have p5' : btw n 0 20 = true := btw_iff.2 p5
    obtain ⟨m, rfl⟩ : ∃ m : Nat, n = m := ⟨n.toNat, by omega⟩
    obtain ⟨p7, p8⟩ := p5
    have hcl : 1 ≤ c.length := coefB_ge p1
    have HL3 := Lib.hid p3
    go_enter Tryd.func18, Tryd.ntmps18
    go_wp2_with (first | (go_at_call 43; refine (isCoefficients_any _ _ _ (by first | (with_reducible assumption) | (with_reducible exact IntsAt.mono (by assumption) (bel_of_ext (by repeat (first | exact ext_refl _ | (with_reducible assumption) | refine ext_ext' ?_ _ | refine ext_alloc' ?_ _ | refine ext_drew' ?_)))))).mono ?_; rintro e w' ⟨rfl, xe, rfl⟩) | (go_at_call 44; refine (areNumbers_any _ _ _ (by first | (with_reducible assumption) | (with_reducible exact IntsAt.mono (by assumption) (bel_of_ext (by repeat (first | exact ext_refl _ | (with_reducible assumption) | refine ext_ext' ?_ _ | refine ext_alloc' ?_ _ | refine ext_drew' ?_)))))).mono ?_; rintro e w' ⟨rfl, xe, rfl⟩) | (go_at_call 40; refine (between_any _ _ _ _).mono ?_; rintro e w' ⟨rfl, xe, rfl⟩) | (go_at_call 48; refine (copyInts_any _ _ _ (by first | (with_reducible assumption) | (with_reducible exact IntsAt.mono (by assumption) (bel_of_ext (by repeat (first | exact ext_refl _ | (with_reducible assumption) | refine ext_ext' ?_ _ | refine ext_alloc' ?_ _ | refine ext_drew' ?_))))) (by omega)).mono ?_; rintro e w' ⟨u, rfl, H⟩; have H := ((Held.start w).to (by repeat (first | exact ext_refl _ | (with_reducible assumption) | refine ext_ext' ?_ _ | refine ext_alloc' ?_ _ | refine ext_drew' ?_))).join H))
    go_loopw [8, 44] (fun v i wr => ∃ k : Nat, k ≤ m ∧ i = .int .i64 k ∧ Held w wr [rowI v (extTo l c k)] ∧ allTo (extOK l c) k = true ∧ numsB (extTo l c k) = true) (fun _ i _ => m - (intOf i).toNat)
    case atStart => exact ⟨0, Nat.zero_le _, rfl, H, rfl, HL3.out⟩
    case round =>
      obtain ⟨k, hk, rfl, H, hall, hnum⟩ := hrel
      have HA := Lib.hid hall
      have HN := Lib.hid hnum
      have io := H.ints0
      have ic := H.oldI hc0
      have hel := extTo_len l c k
      have hel1 : c.length ≤ (extTo l c k).length := by omega
      have hel2 : (extTo l c k).length ≤ 40 := by omega
      clear hall hnum hel
      by_cases hlt : k < m
      · cases hx : extOK l c k
        all_goals
          have hb := numsB_snoc _ (nxt c (extTo l c k)) HN.out
          rw [show numB (nxt c (extTo l c k)) = extOK l c k from rfl, hx] at hb
          go_wp2_with (first | (go_at_call 49; refine (next_nxt _ _ _ _ _ (by first | (with_reducible assumption) | (with_reducible exact IntsAt.mono (by assumption) (bel_of_ext (by repeat (first | exact ext_refl _ | (with_reducible assumption) | refine ext_ext' ?_ _ | refine ext_alloc' ?_ _ | refine ext_drew' ?_))))) (by first | (with_reducible assumption) | (with_reducible exact IntsAt.mono (by assumption) (bel_of_ext (by repeat (first | exact ext_refl _ | (with_reducible assumption) | refine ext_ext' ?_ _ | refine ext_alloc' ?_ _ | refine ext_drew' ?_))))) hel1).mono ?_; rintro e w' ⟨rfl, xe, rfl⟩) | (at_builtin; refine wpList_append_held rfl _ _ _ rfl elemInt (H.to (by repeat (first | exact ext_refl _ | (with_reducible assumption) | refine ext_ext' ?_ _ | refine ext_alloc' ?_ _ | refine ext_drew' ?_))) rfl rfl (Sl_new1 _ _ _) (one_lit _) (by unfold maxLen; omega) (by omega) ?_; intro v' w' H; have H := H.snoc; have io := H.ints0) | (go_at_call 44; refine (areNumbers_any _ _ _ (by first | (with_reducible assumption) | (with_reducible exact IntsAt.mono (by assumption) (bel_of_ext (by repeat (first | exact ext_refl _ | (with_reducible assumption) | refine ext_ext' ?_ _ | refine ext_alloc' ?_ _ | refine ext_drew' ?_)))))).mono ?_; rintro e w' ⟨rfl, xe, rfl⟩))
        · go_ret2
          exact ExtPost.no (extV_cut hlt hx) (H.to (by repeat (first | exact ext_refl _ | (with_reducible assumption) | refine ext_ext' ?_ _ | refine ext_alloc' ?_ _ | refine ext_drew' ?_)))
        · go_roundw
          case rel => exact ⟨k + 1, hlt, int_succ k, H.to (by repeat (first | exact ext_refl _ | (with_reducible assumption) | refine ext_ext' ?_ _ | refine ext_alloc' ?_ _ | refine ext_drew' ?_)), allTo_succ HA.out hx, hb⟩
          case measure => simp [intOf]; omega
      · have HK := Lib.hid (show k = m by omega)
        go_wp2_with fail
        go_ret2
        exact ExtPost.got (extV_all HP.out HK.out HA.out) H
  · have HP := Lib.hid (extV_pre (l := l) (c := c) (n := n) (by simpa using hp))
    have HN := Lib.hid hp
    clear hp
    cases h1 : coefB c
    · skip
      go_enter Tryd.func18, Tryd.ntmps18
      go_wp2_with (first | (go_at_call 43; refine (isCoefficients_any _ _ _ (by first | (with_reducible assumption) | (with_reducible exact IntsAt.mono (by assumption) (bel_of_ext (by repeat (first | exact ext_refl _ | (with_reducible assumption) | refine ext_ext' ?_ _ | refine ext_alloc' ?_ _ | refine ext_drew' ?_)))))).mono ?_; rintro e w' ⟨rfl, xe, rfl⟩) | (go_at_call 44; refine (areNumbers_any _ _ _ (by first | (with_reducible assumption) | (with_reducible exact IntsAt.mono (by assumption) (bel_of_ext (by repeat (first | exact ext_refl _ | (with_reducible assumption) | refine ext_ext' ?_ _ | refine ext_alloc' ?_ _ | refine ext_drew' ?_)))))).mono ?_; rintro e w' ⟨rfl, xe, rfl⟩) | (go_at_call 40; refine (between_any _ _ _ _).mono ?_; rintro e w' ⟨rfl, xe, rfl⟩) | (go_at_call 48; refine (copyInts_any _ _ _ (by first | (with_reducible assumption) | (with_reducible exact IntsAt.mono (by assumption) (bel_of_ext (by repeat (first | exact ext_refl _ | (with_reducible assumption) | refine ext_ext' ?_ _ | refine ext_alloc' ?_ _ | refine ext_drew' ?_))))) (by omega)).mono ?_; rintro e w' ⟨u, rfl, H⟩; have H := ((Held.start w).to (by repeat (first | exact ext_refl _ | (with_reducible assumption) | refine ext_ext' ?_ _ | refine ext_alloc' ?_ _ | refine ext_drew' ?_))).join H))
      go_ret2
      exact ExtPost.fail HP.out (by repeat (first | exact ext_refl _ | (with_reducible assumption) | refine ext_ext' ?_ _ | refine ext_alloc' ?_ _ | refine ext_drew' ?_))
    by_cases h2 : (40 : Int) < l.length
    · skip
      go_enter Tryd.func18, Tryd.ntmps18
      go_wp2_with (first | (go_at_call 43; refine (isCoefficients_any _ _ _ (by first | (with_reducible assumption) | (with_reducible exact IntsAt.mono (by assumption) (bel_of_ext (by repeat (first | exact ext_refl _ | (with_reducible assumption) | refine ext_ext' ?_ _ | refine ext_alloc' ?_ _ | refine ext_drew' ?_)))))).mono ?_; rintro e w' ⟨rfl, xe, rfl⟩) | (go_at_call 44; refine (areNumbers_any _ _ _ (by first | (with_reducible assumption) | (with_reducible exact IntsAt.mono (by assumption) (bel_of_ext (by repeat (first | exact ext_refl _ | (with_reducible assumption) | refine ext_ext' ?_ _ | refine ext_alloc' ?_ _ | refine ext_drew' ?_)))))).mono ?_; rintro e w' ⟨rfl, xe, rfl⟩) | (go_at_call 40; refine (between_any _ _ _ _).mono ?_; rintro e w' ⟨rfl, xe, rfl⟩) | (go_at_call 48; refine (copyInts_any _ _ _ (by first | (with_reducible assumption) | (with_reducible exact IntsAt.mono (by assumption) (bel_of_ext (by repeat (first | exact ext_refl _ | (with_reducible assumption) | refine ext_ext' ?_ _ | refine ext_alloc' ?_ _ | refine ext_drew' ?_))))) (by omega)).mono ?_; rintro e w' ⟨u, rfl, H⟩; have H := ((Held.start w).to (by repeat (first | exact ext_refl _ | (with_reducible assumption) | refine ext_ext' ?_ _ | refine ext_alloc' ?_ _ | refine ext_drew' ?_))).join H))
      go_ret2
      exact ExtPost.fail HP.out (by repeat (first | exact ext_refl _ | (with_reducible assumption) | refine ext_ext' ?_ _ | refine ext_alloc' ?_ _ | refine ext_drew' ?_))
    cases h3 : numsB l
    · skip
      go_enter Tryd.func18, Tryd.ntmps18
      go_wp2_with (first | (go_at_call 43; refine (isCoefficients_any _ _ _ (by first | (with_reducible assumption) | (with_reducible exact IntsAt.mono (by assumption) (bel_of_ext (by repeat (first | exact ext_refl _ | (with_reducible assumption) | refine ext_ext' ?_ _ | refine ext_alloc' ?_ _ | refine ext_drew' ?_)))))).mono ?_; rintro e w' ⟨rfl, xe, rfl⟩) | (go_at_call 44; refine (areNumbers_any _ _ _ (by first | (with_reducible assumption) | (with_reducible exact IntsAt.mono (by assumption) (bel_of_ext (by repeat (first | exact ext_refl _ | (with_reducible assumption) | refine ext_ext' ?_ _ | refine ext_alloc' ?_ _ | refine ext_drew' ?_)))))).mono ?_; rintro e w' ⟨rfl, xe, rfl⟩) | (go_at_call 40; refine (between_any _ _ _ _).mono ?_; rintro e w' ⟨rfl, xe, rfl⟩) | (go_at_call 48; refine (copyInts_any _ _ _ (by first | (with_reducible assumption) | (with_reducible exact IntsAt.mono (by assumption) (bel_of_ext (by repeat (first | exact ext_refl _ | (with_reducible assumption) | refine ext_ext' ?_ _ | refine ext_alloc' ?_ _ | refine ext_drew' ?_))))) (by omega)).mono ?_; rintro e w' ⟨u, rfl, H⟩; have H := ((Held.start w).to (by repeat (first | exact ext_refl _ | (with_reducible assumption) | refine ext_ext' ?_ _ | refine ext_alloc' ?_ _ | refine ext_drew' ?_))).join H))
      go_ret2
      exact ExtPost.fail HP.out (by repeat (first | exact ext_refl _ | (with_reducible assumption) | refine ext_ext' ?_ _ | refine ext_alloc' ?_ _ | refine ext_drew' ?_))
    by_cases h4 : l.length < c.length
    · skip
      go_enter Tryd.func18, Tryd.ntmps18
      go_wp2_with (first | (go_at_call 43; refine (isCoefficients_any _ _ _ (by first | (with_reducible assumption) | (with_reducible exact IntsAt.mono (by assumption) (bel_of_ext (by repeat (first | exact ext_refl _ | (with_reducible assumption) | refine ext_ext' ?_ _ | refine ext_alloc' ?_ _ | refine ext_drew' ?_)))))).mono ?_; rintro e w' ⟨rfl, xe, rfl⟩) | (go_at_call 44; refine (areNumbers_any _ _ _ (by first | (with_reducible assumption) | (with_reducible exact IntsAt.mono (by assumption) (bel_of_ext (by repeat (first | exact ext_refl _ | (with_reducible assumption) | refine ext_ext' ?_ _ | refine ext_alloc' ?_ _ | refine ext_drew' ?_)))))).mono ?_; rintro e w' ⟨rfl, xe, rfl⟩) | (go_at_call 40; refine (between_any _ _ _ _).mono ?_; rintro e w' ⟨rfl, xe, rfl⟩) | (go_at_call 48; refine (copyInts_any _ _ _ (by first | (with_reducible assumption) | (with_reducible exact IntsAt.mono (by assumption) (bel_of_ext (by repeat (first | exact ext_refl _ | (with_reducible assumption) | refine ext_ext' ?_ _ | refine ext_alloc' ?_ _ | refine ext_drew' ?_))))) (by omega)).mono ?_; rintro e w' ⟨u, rfl, H⟩; have H := ((Held.start w).to (by repeat (first | exact ext_refl _ | (with_reducible assumption) | refine ext_ext' ?_ _ | refine ext_alloc' ?_ _ | refine ext_drew' ?_))).join H))
      go_ret2
      exact ExtPost.fail HP.out (by repeat (first | exact ext_refl _ | (with_reducible assumption) | refine ext_ext' ?_ _ | refine ext_alloc' ?_ _ | refine ext_drew' ?_))
    cases h5 : btw n 0 20
    · skip
      go_enter Tryd.func18, Tryd.ntmps18
      go_wp2_with (first | (go_at_call 43; refine (isCoefficients_any _ _ _ (by first | (with_reducible assumption) | (with_reducible exact IntsAt.mono (by assumption) (bel_of_ext (by repeat (first | exact ext_refl _ | (with_reducible assumption) | refine ext_ext' ?_ _ | refine ext_alloc' ?_ _ | refine ext_drew' ?_)))))).mono ?_; rintro e w' ⟨rfl, xe, rfl⟩) | (go_at_call 44; refine (areNumbers_any _ _ _ (by first | (with_reducible assumption) | (with_reducible exact IntsAt.mono (by assumption) (bel_of_ext (by repeat (first | exact ext_refl _ | (with_reducible assumption) | refine ext_ext' ?_ _ | refine ext_alloc' ?_ _ | refine ext_drew' ?_)))))).mono ?_; rintro e w' ⟨rfl, xe, rfl⟩) | (go_at_call 40; refine (between_any _ _ _ _).mono ?_; rintro e w' ⟨rfl, xe, rfl⟩) | (go_at_call 48; refine (copyInts_any _ _ _ (by first | (with_reducible assumption) | (with_reducible exact IntsAt.mono (by assumption) (bel_of_ext (by repeat (first | exact ext_refl _ | (with_reducible assumption) | refine ext_ext' ?_ _ | refine ext_alloc' ?_ _ | refine ext_drew' ?_))))) (by omega)).mono ?_; rintro e w' ⟨u, rfl, H⟩; have H := ((Held.start w).to (by repeat (first | exact ext_refl _ | (with_reducible assumption) | refine ext_ext' ?_ _ | refine ext_alloc' ?_ _ | refine ext_drew' ?_))).join H))
      go_ret2
      exact ExtPost.fail HP.out (by repeat (first | exact ext_refl _ | (with_reducible assumption) | refine ext_ext' ?_ _ | refine ext_alloc' ?_ _ | refine ext_drew' ?_))
    by_cases h6 : (40 : Int) < l.length + n
    · obtain ⟨q1, q2⟩ := btw_iff.1 h5
      go_enter Tryd.func18, Tryd.ntmps18
      go_wp2_with (first | (go_at_call 43; refine (isCoefficients_any _ _ _ (by first | (with_reducible assumption) | (with_reducible exact IntsAt.mono (by assumption) (bel_of_ext (by repeat (first | exact ext_refl _ | (with_reducible assumption) | refine ext_ext' ?_ _ | refine ext_alloc' ?_ _ | refine ext_drew' ?_)))))).mono ?_; rintro e w' ⟨rfl, xe, rfl⟩) | (go_at_call 44; refine (areNumbers_any _ _ _ (by first | (with_reducible assumption) | (with_reducible exact IntsAt.mono (by assumption) (bel_of_ext (by repeat (first | exact ext_refl _ | (with_reducible assumption) | refine ext_ext' ?_ _ | refine ext_alloc' ?_ _ | refine ext_drew' ?_)))))).mono ?_; rintro e w' ⟨rfl, xe, rfl⟩) | (go_at_call 40; refine (between_any _ _ _ _).mono ?_; rintro e w' ⟨rfl, xe, rfl⟩) | (go_at_call 48; refine (copyInts_any _ _ _ (by first | (with_reducible assumption) | (with_reducible exact IntsAt.mono (by assumption) (bel_of_ext (by repeat (first | exact ext_refl _ | (with_reducible assumption) | refine ext_ext' ?_ _ | refine ext_alloc' ?_ _ | refine ext_drew' ?_))))) (by omega)).mono ?_; rintro e w' ⟨u, rfl, H⟩; have H := ((Held.start w).to (by repeat (first | exact ext_refl _ | (with_reducible assumption) | refine ext_ext' ?_ _ | refine ext_alloc' ?_ _ | refine ext_drew' ?_))).join H))
      go_ret2
      exact ExtPost.fail HP.out (by repeat (first | exact ext_refl _ | (with_reducible assumption) | refine ext_ext' ?_ _ | refine ext_alloc' ?_ _ | refine ext_drew' ?_))
    exact absurd (preB_mk h1 (by omega) h3 (by omega) h5 (by omega)) HN.out
theorem ExtPost.failE {w w' : World} {r : Option (List Int)} {v : Value} {L : List Row} (h : r = Option.none) (H : Held w w' (⟨v, 3, 1, 0, []⟩ :: L)) : ExtPost w r (.returned (.tuple #[v, .bool false])) w' := by
  subst h; exact ⟨_, rfl, ext_of H.bel, H.own _ List.mem_cons_self⟩
theorem coefB_mk {c : List Int} (h1 : fineB c = true) (h2 : c.length ≠ 0) (h3 : c.length ≤ 8) : coefB c = true := by
  simp only [fineB, Bool.and_eq_true] at h1
  simp only [coefB, h1.1, Bool.and_true]
  exact btw_iff.2 ⟨by omega, by omega⟩
theorem fineB_coef {c : List Int} (h : coefB c = true) : fineB c = true ∧ c.length ≠ 0 ∧ c.length ≤ 8 := by
  simp only [coefB, Bool.and_eq_true, btw_iff] at h
  exact ⟨by simp [fineB, h.2]; omega, by omega, by omega⟩
theorem l12Value_nxt (l c : List Int) (vl vc : Value) (w : World) (hl : IntsAt w vl l) (hc : IntsAt w vc c) (h1 : c.length ≤ l.length) :
    Calls Tryd.prog 51 #[vl, vc, .int .i64 l.length] w fun e w' => e = .returned (.int .i64 (nxt c l)) ∧ ∃ x, w' = ext w x := l12Value_any l c l.length vl vc w hl hc h1 (Nat.le_refl _)
theorem l1In_num (x : Int) (w : World) : Calls Tryd.prog 46 #[.int .i64 x, .int .i64 (-1000000000), .int .i64 1000000000] w fun e w' => e = .returned (.bool (numB x)) ∧ ∃ x, w' = ext w x := l1In_any _ _ _ w
set_option maxHeartbeats 2000000 in
theorem specExtend_any (l c : List Int) (n : Int) (vl vc : Value) (w : World) (hl : IntsAt w vl l) (hc : IntsAt w vc c) (wn : (Lit.int .i64 n).wf = true) :
    Calls Tryd.prog 19 #[vl, vc, .int .i64 n] w (ExtPost w (extV l c n)) := by
  have hl0 := hl
  have hc0 := hc
  obtain ⟨a, b, o, cap, rfl, hl1, hl2, hl3, hlc⟩ := hl.opn
  obtain ⟨a', b', o', cap', rfl, hc1, hc2, hc3, hcc⟩ := hc.opn
  clear hcc hlc hl hc
  have hn63 : -9223372036854775808 ≤ n ∧ n ≤ 9223372036854775807 := by simpa [Lit.wf, IntKind.min, IntKind.max, IntKind.signed, IntKind.bits] using wn
  obtain ⟨n63, n63'⟩ := hn63
  by_cases hp : preB l c n = true
  · have HP := Lib.hid hp
    simp only [preB, Bool.and_eq_true, decide_eq_true_eq, btw_iff] at hp
    obtain ⟨⟨⟨⟨⟨p1, p2⟩, p3⟩, p4⟩, p5⟩, p6⟩ := hp
    have p5' : btw n 0 20 = true := btw_iff.2 p5
    obtain ⟨m, rfl⟩ : ∃ m : Nat, n = m := ⟨n.toNat, by omega⟩
    obtain ⟨p7, p8⟩ := p5
    obtain ⟨f1, f2, f3⟩ := fineB_coef p1
    have f2' : ((c.length : Int) == 0) = false := beq_eq_false_iff_ne.2 (by omega)
    have f4 : fineB l = true := by simp [fineB, p3]; omega
    have hcl : 1 ≤ c.length := by omega
    have HL3 := Lib.hid p3
    clear p1 p3 f2
    go_enter Tryd.func19, Tryd.ntmps19
    go_wp2_with (first | (go_at_call 50; refine (l12Fine_any _ _ _ (by first | (with_reducible assumption) | (with_reducible exact IntsAt.mono (by assumption) (bel_of_ext (by repeat (first | exact ext_refl _ | (with_reducible assumption) | refine ext_ext' ?_ _ | refine ext_alloc' ?_ _ | refine ext_drew' ?_)))))).mono ?_; rintro e w' ⟨rfl, xe, rfl⟩) | (go_at_call 46; refine (l1In_any _ _ _ _).mono ?_; rintro e w' ⟨rfl, xe, rfl⟩) | (at_builtin; refine wpList_append_held rfl _ _ _ rfl elemInt (((Held.start w).to (by repeat (first | exact ext_refl _ | (with_reducible assumption) | refine ext_ext' ?_ _ | refine ext_alloc' ?_ _ | refine ext_drew' ?_))).empty _ _) rfl rfl (by exact IntsAt.mono hl0 (bel_of_ext (by repeat (first | exact ext_refl _ | (with_reducible assumption) | refine ext_ext' ?_ _ | refine ext_alloc' ?_ _ | refine ext_drew' ?_)))) (ints_oneCell _ _) (by unfold maxLen; omega) (by omega) ?_; intro v' w' H; have H := H.whole))
    go_loopw [8, 9] (fun v i wr => ∃ k : Nat, k ≤ m ∧ i = .int .i64 k ∧ Held w wr [rowI v (extTo l c k)] ∧ allTo (extOK l c) k = true) (fun _ i _ => m - (intOf i).toNat)
    case atStart => exact ⟨0, Nat.zero_le _, rfl, H, rfl⟩
    case round =>
      clear H
      obtain ⟨k, hk, rfl, H, hall⟩ := hrel
      have HA := Lib.hid hall
      have io := H.ints0
      have ic := H.oldI hc0
      have hel := extTo_len l c k
      have hel1 : c.length ≤ (extTo l c k).length := by omega
      have hel2 : (extTo l c k).length ≤ 40 := by omega
      obtain ⟨au, cu, hshape⟩ := own_slice (H.own _ List.mem_cons_self)
      simp only at hshape
      subst hshape
      clear hall hel
      by_cases hlt : k < m
      · cases hx : extOK l c k
        all_goals
          have hb : numB (nxt c (extTo l c k)) = extOK l c k := rfl
          rw [hx] at hb
          go_wp2_with (first | (go_at_call 51; refine (l12Value_nxt _ _ _ _ _ (by first | (with_reducible assumption) | (with_reducible exact IntsAt.mono (by assumption) (bel_of_ext (by repeat (first | exact ext_refl _ | (with_reducible assumption) | refine ext_ext' ?_ _ | refine ext_alloc' ?_ _ | refine ext_drew' ?_))))) (by first | (with_reducible assumption) | (with_reducible exact IntsAt.mono (by assumption) (bel_of_ext (by repeat (first | exact ext_refl _ | (with_reducible assumption) | refine ext_ext' ?_ _ | refine ext_alloc' ?_ _ | refine ext_drew' ?_))))) hel1).mono ?_; rintro e w' ⟨rfl, xe, rfl⟩) | (go_at_call 46; refine (l1In_num _ _).mono ?_; rintro e w' ⟨rfl, xe, rfl⟩) | (at_builtin; refine wpList_append_held rfl _ _ _ rfl elemInt (H.to (by repeat (first | exact ext_refl _ | (with_reducible assumption) | refine ext_ext' ?_ _ | refine ext_alloc' ?_ _ | refine ext_drew' ?_))) rfl rfl (Sl_new1 _ _ _) (one_lit _) (by unfold maxLen; omega) (by omega) ?_; intro v' w' H; have H := H.snoc))
        · go_ret2
          exact ExtPost.failE (extV_cut hlt hx) ((H.to (by repeat (first | exact ext_refl _ | (with_reducible assumption) | refine ext_ext' ?_ _ | refine ext_alloc' ?_ _ | refine ext_drew' ?_))).empty _ _)
        · go_roundw
          case rel => exact ⟨k + 1, hlt, int_succ k, H.to (by repeat (first | exact ext_refl _ | (with_reducible assumption) | refine ext_ext' ?_ _ | refine ext_alloc' ?_ _ | refine ext_drew' ?_)), allTo_succ HA.out hx⟩
          case measure => simp [intOf]; omega
      · have HK := Lib.hid (show k = m by omega)
        go_wp2_with fail
        go_ret2
        exact ExtPost.got (extV_all HP.out HK.out HA.out) H
  · have HP := Lib.hid (extV_pre (l := l) (c := c) (n := n) (by simpa using hp))
    have HN := Lib.hid hp
    clear hp
    cases h1 : fineB l
    · skip
      go_enter Tryd.func19, Tryd.ntmps19
      go_wp2_with (first | (go_at_call 50; refine (l12Fine_any _ _ _ (by first | (with_reducible assumption) | (with_reducible exact IntsAt.mono (by assumption) (bel_of_ext (by repeat (first | exact ext_refl _ | (with_reducible assumption) | refine ext_ext' ?_ _ | refine ext_alloc' ?_ _ | refine ext_drew' ?_)))))).mono ?_; rintro e w' ⟨rfl, xe, rfl⟩) | (go_at_call 46; refine (l1In_any _ _ _ _).mono ?_; rintro e w' ⟨rfl, xe, rfl⟩))
      go_ret2
      exact ExtPost.failE HP.out (((Held.start w).to (by repeat (first | exact ext_refl _ | (with_reducible assumption) | refine ext_ext' ?_ _ | refine ext_alloc' ?_ _ | refine ext_drew' ?_))).empty _ _)
    cases h2 : fineB c
    · skip
      go_enter Tryd.func19, Tryd.ntmps19
      go_wp2_with (first | (go_at_call 50; refine (l12Fine_any _ _ _ (by first | (with_reducible assumption) | (with_reducible exact IntsAt.mono (by assumption) (bel_of_ext (by repeat (first | exact ext_refl _ | (with_reducible assumption) | refine ext_ext' ?_ _ | refine ext_alloc' ?_ _ | refine ext_drew' ?_)))))).mono ?_; rintro e w' ⟨rfl, xe, rfl⟩) | (go_at_call 46; refine (l1In_any _ _ _ _).mono ?_; rintro e w' ⟨rfl, xe, rfl⟩))
      go_ret2
      exact ExtPost.failE HP.out (((Held.start w).to (by repeat (first | exact ext_refl _ | (with_reducible assumption) | refine ext_ext' ?_ _ | refine ext_alloc' ?_ _ | refine ext_drew' ?_))).empty _ _)
    by_cases h3 : ((c.length : Int) == 0) = true
    · skip
      go_enter Tryd.func19, Tryd.ntmps19
      go_wp2_with (first | (go_at_call 50; refine (l12Fine_any _ _ _ (by first | (with_reducible assumption) | (with_reducible exact IntsAt.mono (by assumption) (bel_of_ext (by repeat (first | exact ext_refl _ | (with_reducible assumption) | refine ext_ext' ?_ _ | refine ext_alloc' ?_ _ | refine ext_drew' ?_)))))).mono ?_; rintro e w' ⟨rfl, xe, rfl⟩) | (go_at_call 46; refine (l1In_any _ _ _ _).mono ?_; rintro e w' ⟨rfl, xe, rfl⟩))
      go_ret2
      exact ExtPost.failE HP.out (((Held.start w).to (by repeat (first | exact ext_refl _ | (with_reducible assumption) | refine ext_ext' ?_ _ | refine ext_alloc' ?_ _ | refine ext_drew' ?_))).empty _ _)
    by_cases h4 : (8 : Int) < c.length
    · have h3' : ((c.length : Int) == 0) = false := by simpa using h3
      go_enter Tryd.func19, Tryd.ntmps19
      go_wp2_with (first | (go_at_call 50; refine (l12Fine_any _ _ _ (by first | (with_reducible assumption) | (with_reducible exact IntsAt.mono (by assumption) (bel_of_ext (by repeat (first | exact ext_refl _ | (with_reducible assumption) | refine ext_ext' ?_ _ | refine ext_alloc' ?_ _ | refine ext_drew' ?_)))))).mono ?_; rintro e w' ⟨rfl, xe, rfl⟩) | (go_at_call 46; refine (l1In_any _ _ _ _).mono ?_; rintro e w' ⟨rfl, xe, rfl⟩))
      go_ret2
      exact ExtPost.failE HP.out (((Held.start w).to (by repeat (first | exact ext_refl _ | (with_reducible assumption) | refine ext_ext' ?_ _ | refine ext_alloc' ?_ _ | refine ext_drew' ?_))).empty _ _)
    by_cases h5 : l.length < c.length
    · have h3' : ((c.length : Int) == 0) = false := by simpa using h3
      go_enter Tryd.func19, Tryd.ntmps19
      go_wp2_with (first | (go_at_call 50; refine (l12Fine_any _ _ _ (by first | (with_reducible assumption) | (with_reducible exact IntsAt.mono (by assumption) (bel_of_ext (by repeat (first | exact ext_refl _ | (with_reducible assumption) | refine ext_ext' ?_ _ | refine ext_alloc' ?_ _ | refine ext_drew' ?_)))))).mono ?_; rintro e w' ⟨rfl, xe, rfl⟩) | (go_at_call 46; refine (l1In_any _ _ _ _).mono ?_; rintro e w' ⟨rfl, xe, rfl⟩))
      go_ret2
      exact ExtPost.failE HP.out (((Held.start w).to (by repeat (first | exact ext_refl _ | (with_reducible assumption) | refine ext_ext' ?_ _ | refine ext_alloc' ?_ _ | refine ext_drew' ?_))).empty _ _)
    cases h6 : btw n 0 20
    · have h3' : ((c.length : Int) == 0) = false := by simpa using h3
      go_enter Tryd.func19, Tryd.ntmps19
      go_wp2_with (first | (go_at_call 50; refine (l12Fine_any _ _ _ (by first | (with_reducible assumption) | (with_reducible exact IntsAt.mono (by assumption) (bel_of_ext (by repeat (first | exact ext_refl _ | (with_reducible assumption) | refine ext_ext' ?_ _ | refine ext_alloc' ?_ _ | refine ext_drew' ?_)))))).mono ?_; rintro e w' ⟨rfl, xe, rfl⟩) | (go_at_call 46; refine (l1In_any _ _ _ _).mono ?_; rintro e w' ⟨rfl, xe, rfl⟩))
      go_ret2
      exact ExtPost.failE HP.out (((Held.start w).to (by repeat (first | exact ext_refl _ | (with_reducible assumption) | refine ext_ext' ?_ _ | refine ext_alloc' ?_ _ | refine ext_drew' ?_))).empty _ _)
    by_cases h7 : (40 : Int) < l.length + n
    · have h3' : ((c.length : Int) == 0) = false := by simpa using h3
      have hl40 : (l.length : Int) ≤ 40 := by simp [fineB] at h1; omega
      obtain ⟨q1, q2⟩ := btw_iff.1 h6
      go_enter Tryd.func19, Tryd.ntmps19
      go_wp2_with (first | (go_at_call 50; refine (l12Fine_any _ _ _ (by first | (with_reducible assumption) | (with_reducible exact IntsAt.mono (by assumption) (bel_of_ext (by repeat (first | exact ext_refl _ | (with_reducible assumption) | refine ext_ext' ?_ _ | refine ext_alloc' ?_ _ | refine ext_drew' ?_)))))).mono ?_; rintro e w' ⟨rfl, xe, rfl⟩) | (go_at_call 46; refine (l1In_any _ _ _ _).mono ?_; rintro e w' ⟨rfl, xe, rfl⟩))
      go_ret2
      exact ExtPost.failE HP.out (((Held.start w).to (by repeat (first | exact ext_refl _ | (with_reducible assumption) | refine ext_ext' ?_ _ | refine ext_alloc' ?_ _ | refine ext_drew' ?_))).empty _ _)
    have h1' := h1
    simp only [fineB, Bool.and_eq_true, decide_eq_true_eq] at h1'
    exact absurd (preB_mk (coefB_mk h2 (by simp at h3; simp [h3]) (by omega)) (by omega) h1'.1 (by omega) h6 (by omega)) HN.out
theorem extV_len (l c : List Int) (n : Int) : ((extV l c n).getD []).length ≤ 40 := by
  cases h : extV l c n with
  | none => simp
  | some xs =>
    simp only [Option.getD_some]
    unfold extV at h
    split at h
    · rename_i hh
      simp only [Bool.and_eq_true] at hh
      have hp := hh.1
      simp only [preB, Bool.and_eq_true, decide_eq_true_eq, btw_iff] at hp
      cases h
      rw [extTo_len]
      omega
    · cases h
end
section
open Go.ChangeShapes Go.WideShapes Go.ChangeAt Go.RowKit
def tab (n : Nat) (f : Nat → Int) : List Int := (List.range n).map f
theorem tab_len (n : Nat) (f : Nat → Int) : (tab n f).length = n := by simp [tab]
theorem tab_nth {n : Nat} (f : Nat → Int) {k : Nat} (h : k < n) : nth (tab n f) k = f k := by simp [tab, nth, List.getD, h]
theorem tab_congr {n : Nat} {f g : Nat → Int} (h : ∀ k, k < n → f k = g k) : tab n f = tab n g := List.map_congr_left fun k hk => h k (List.mem_range.1 hk)
def upd (f : Nat → Int) (k : Nat) (x : Int) : Nat → Int := fun i => if i = k then x else f i
theorem tab_set (n : Nat) (f : Nat → Int) (k : Nat) (x : Int) : (tab n f).set k x = tab n (upd f k x) := by
  apply List.ext_getElem?
  intro i
  by_cases h : i < n
  · by_cases e : k = i
    · subst e; simp [tab, upd, h]
    · rw [List.getElem?_set_ne e]; simp [tab, upd, h, Ne.symm e]
  · rw [List.getElem?_eq_none (by simp [tab]; omega), List.getElem?_eq_none (by simp [tab]; omega)]
theorem tab_zero (n : Nat) : List.replicate n (iv 0) = (tab n fun _ => 0).map iv := by
  simp [tab, List.map_const']
theorem tab_set_iv (n : Nat) (f : Nat → Int) (k : Nat) (x : Int) : ((tab n f).map iv).set k (iv x) = (tab n (upd f k x)).map iv := by rw [← List.map_set, tab_set]
theorem Held.cellO {W0 w : World} {L : List Row} (H : Held W0 w L) {b o : Nat} {v : Value} (hb : Old W0 b) (hc : W0.cell? ⟨b, o, none⟩ = some v) : w.cell? ⟨b, o, none⟩ = some v := by
  rw [H.bel.cell (p := ⟨b, o, none⟩) hb.lt]; exact hc
theorem Held.cellRow {W0 w : World} {L : List Row} {g cap n : Nat} {f : Nat → Int} (H : Held W0 w (rowI (.slice (some ⟨g, 0, none⟩) n cap) (tab n f) :: L)) {j : Nat} (hj : j < n) : w.cell? ⟨g, j, none⟩ = some (.int .i64 (f j)) ∧ w.frozen? ⟨g, j, none⟩ = false := by
  have ho := H.own _ List.mem_cons_self
  simp only [tab_len] at ho
  refine ⟨?_, ho.frozenAt j⟩
  rw [ho.cellAt j (by omega)]
  simp [tab, hj, iv]
theorem Held.storeRow {W0 w : World} {L : List Row} {g cap n : Nat} {f : Nat → Int} (H : Held W0 w (rowI (.slice (some ⟨g, 0, none⟩) n cap) (tab n f) :: L)) (j : Nat) (x : Int) : Held W0 (w.setCell ⟨g, j, none⟩ (.int .i64 x)) (rowI (.slice (some ⟨g, 0, none⟩) n cap) (tab n (upd f j x)) :: L) := by
  have H' : Held W0 w ((⟨.slice (some ⟨g, 0, none⟩) n cap, 3, 1, n, (tab n f).map iv⟩ : Row) :: L) := by
    simp only [rowI, tab_len] at H
    exact H
  have hst := (H'.own _ List.mem_cons_self).stored j (.int .i64 x)
  have h4 := H'.write hst.2 hst.1
  have e : ((tab n f).map iv).set j (.int .i64 x) = (tab n (upd f j x)).map iv := tab_set_iv n f j x
  rw [e] at h4
  rw [rowI, tab_len]
  exact h4
theorem Held.zeros {W0 w : World} {L : List Row} {g n : Nat} (H : Held W0 w (⟨.slice (some ⟨g, 0, none⟩) n n, 3, 1, n, (madeCells (Value.int .i64 0).cells (n * 1)).toList⟩ :: L)) : Held W0 w (rowI (.slice (some ⟨g, 0, none⟩) n n) (tab n fun _ => 0) :: L) := by
  have hz : (madeCells (Value.int .i64 0).cells (n * 1)).toList = (tab n fun _ => 0).map iv := by rw [Nat.mul_one]; exact (madeOne _ _).trans (tab_zero _)
  rw [hz] at H
  rw [rowI, tab_len]; exact H
theorem tab_nths (xs : List Int) : tab xs.length (nth xs) = xs := by
  apply List.ext_getElem
  · simp [tab]
  · intro i h1 h2
    simp [tab, nth, List.getD, h2]
abbrev rowT (g N : Nat) (f : Nat → Int) : Row := rowI (.slice (some ⟨g, 0, none⟩) N N) (tab N f)
end
end Go.Proofs.YtchcepihmphdmaaDoor
