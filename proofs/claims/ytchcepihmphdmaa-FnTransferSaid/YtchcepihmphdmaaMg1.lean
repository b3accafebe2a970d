/- Part 1 of a proof: base, sl, held, ints, copyints, marks, hold2, between, cells, copycells, rowc, boxes, putc, ins, shape, shp, slaid, slsort, slslice, sortcells, corners, box2, opens, szints, copyregion, pieces, slices, rowcopy. -/
import Derived.Test.YtchcepihmphdmaaRows
import Derived.WalkKit
import Derived.ProofKit
import Derived.OpenShut
import Derived.BigQuiet
import Derived.Lib.Hide
import Derived.Deep.QuietTactic
import Derived.Outline
import Derived.OrdersHeld
import Derived.Laws.AppendOwnNone
import Derived.Deep.AppendLies
import Derived.Lib.ReflectliteSwap
import Derived.Sort.LotA
import Derived.Laws.Externs
import Derived.Shelf.GgSortFunc.Tiny
import Derived.Sort.WalkA
import Derived.Lib.SmallJoins
import Derived.Laws.CopyOwn
namespace Go.Proofs.Ytchcepihmphdmaa
set_option linter.unusedVariables false
section
open Go.ChangeShapes Go.WideShapes Go.ChangeAt Go.RowKit
/-- New blocks behind those of a world, and another count of draws. -/
structure Ext where
  bs : Array Obj
  d : Nat
instance : Nonempty Ext := ⟨⟨#[], 0⟩⟩
def ext (w : World) (x : Ext) : World := { w with heap := w.heap ++ x.bs, drawn := x.d }
/-- block n lies in w -/
class Old (w : World) (n : Nat) : Prop where
  lt : n < w.heap.size
/-- w has n blocks -/
class SizeIs (w : World) (n : Nat) : Prop where
  eq : w.heap.size = n
section
variable (w : World) (x y : Ext)
theorem size_ext : (ext w x).heap.size = w.heap.size + x.bs.size := by simp [ext]
theorem ext_ext : ext (ext w x) y = ext w ⟨x.bs ++ y.bs, y.d⟩ := by simp [ext, Array.append_assoc]
@[go_sem] theorem drew_ext : (ext w x).drew = ext w ⟨x.bs, x.d + 1⟩ := rfl
@[go_sem] theorem drawn_ext : ({ ext w x with drawn := (ext w x).drawn + 1 } : World) = ext w ⟨x.bs, x.d + 1⟩ := rfl
@[go_sem] theorem tape_ext : (ext w x).tape = w.tape := rfl
@[go_sem] theorem os_ext : (ext w x).os = w.os := rfl
@[go_sem] theorem output_ext : (ext w x).output = w.output := rfl
theorem lt_ext {n : Nat} (h : n < w.heap.size) : n < (ext w x).heap.size := by rw [size_ext]; omega
theorem lt_alloc {n : Nat} (o : Obj) (h : n < w.heap.size) : n < (w.alloc o).heap.size := by rw [World.size_alloc]; omega
instance old_ext {n : Nat} [h : Old w n] : Old (ext w x) n := ⟨lt_ext w x h.lt⟩
instance old_alloc {n : Nat} (o : Obj) [h : Old w n] : Old (w.alloc o) n := ⟨lt_alloc w o h.lt⟩
instance old_new (o : Obj) {n : Nat} [h : SizeIs w n] : Old (w.alloc o) n := ⟨by rw [World.size_alloc, h.eq]; omega⟩
instance size_new (o : Obj) {n : Nat} [h : SizeIs w n] : SizeIs (w.alloc o) (n + 1) := ⟨by rw [World.size_alloc, h.eq]⟩
instance size_set {n : Nat} (a : Addr) (v : Value) [h : SizeIs w n] : SizeIs (w.setCell a v) n := ⟨by rw [World.size_setCell, h.eq]⟩
instance size_drew {n : Nat} [h : SizeIs w n] : SizeIs w.drew n := ⟨h.eq⟩
instance (priority := low) size_self : SizeIs w w.heap.size := ⟨rfl⟩
instance old_drew {n : Nat} [h : Old w n] : Old w.drew n := ⟨h.lt⟩
instance old_set {n : Nat} (a : Addr) (v : Value) [h : Old w n] : Old (w.setCell a v) n := ⟨by rw [World.size_setCell]; exact h.lt⟩
theorem heap_ext {n : Nat} (h : n < w.heap.size) : (ext w x).heap[n]? = w.heap[n]? := by
  simp [ext, Array.getElem?_append_left h]
@[go_sem] theorem cell?_ext {n i : Nat} [h : Old w n] : (ext w x).cell? ⟨n, i, none⟩ = w.cell? ⟨n, i, none⟩ := by
  simp only [World.cell?, heap_ext w x h.lt]
@[go_sem] theorem cell?_old {n i : Nat} (o : Obj) [h : Old w n] : (w.alloc o).cell? ⟨n, i, none⟩ = w.cell? ⟨n, i, none⟩ := World.cell?_alloc_past o n i h.lt
@[go_sem] theorem frozen?_old {n i : Nat} (o : Obj) [h : Old w n] : (w.alloc o).frozen? ⟨n, i, none⟩ = w.frozen? ⟨n, i, none⟩ := World.frozen?_alloc_past o n i h.lt
@[go_sem] theorem setCell_old {n i : Nat} (o : Obj) (v : Value) [h : Old w n] : (w.alloc o).setCell ⟨n, i, none⟩ v = (w.setCell ⟨n, i, none⟩ v).alloc o := World.setCell_alloc_past o n i v h.lt
@[go_sem] theorem frozen?_ext {n i : Nat} [h : Old w n] : (ext w x).frozen? ⟨n, i, none⟩ = w.frozen? ⟨n, i, none⟩ := by
  simp only [World.frozen?, heap_ext w x h.lt]
@[go_sem] theorem shape?_ext {n : Nat} [h : Old w n] : (ext w x).shape? n = w.shape? n := by
  simp only [World.shape?, heap_ext w x h.lt]
@[go_sem] theorem setCell_ext {n i : Nat} (v : Value) [ho : Old w n] : (ext w x).setCell ⟨n, i, none⟩ v = ext (w.setCell ⟨n, i, none⟩ v) x := by
  have h := ho.lt
  simp only [World.setCell, ext]
  congr 1
  apply Array.ext_getElem?
  intro k
  simp only [Array.getElem?_modify, Array.getElem?_append, Array.size_modify]
  by_cases hk : n = k
  · subst hk; simp [h]
  · simp [hk]
end
theorem ext_zero (w : World) : w = ext w ⟨#[], w.drawn⟩ := by simp [ext]
theorem ext_alloc (w : World) (o : Obj) : ∃ x, w.alloc o = ext w x := ⟨⟨#[o], w.drawn⟩, by simp only [ext, Array.append_singleton]; rfl⟩
theorem Below_ext (w : World) (x : Ext) : Below w.heap.size w (ext w x) := ⟨rfl, rfl, rfl, by simp [size_ext], fun k hk => heap_ext w x hk⟩
theorem ext_of {w w' : World} (h : Below w.heap.size w w') : ∃ x, w' = ext w x := by
  refine ⟨⟨w'.heap.extract w.heap.size w'.heap.size, w'.drawn⟩, ?_⟩
  obtain ⟨h1, h2, h3, h4, h5⟩ := h
  cases w'
  simp only [ext] at *
  subst h1; subst h2; subst h3
  congr 1
  apply Array.ext_getElem?
  intro k
  rw [Array.getElem?_append]
  split
  · exact h5 k (by assumption)
  · rename_i hk
    rw [Array.getElem?_extract]
    by_cases hk2 : k < Array.size (by assumption : Array Obj)
    · rw [if_pos (by omega)]
      congr 1
      omega
    · rw [if_neg (by omega)]
      simp
      omega
theorem Calls_ext_of {P : Program} {f : FuncId} {args : Array Value} {w : World} {x : Ext} {v : Value}
    (h : Calls P f args (ext w x) fun e w' => e = .returned v ∧ ∃ y, w' = ext (ext w x) y) : Calls P f args (ext w x) fun e w'' => e = .returned v ∧ ∃ y, w'' = ext w y :=
  h.mono fun _ _ ⟨he, m, hm⟩ => ⟨he, ⟨x.bs ++ m.bs, m.d⟩, by rw [hm, ext_ext]⟩
theorem wp_region_ext_lit {P : Program} {id : Nat} {Q : Exit → Act → World → Prop} {a : Act} {w : World} {l : List Oper} (hm : P.follows .mixedOrders = true) (hB : Region.lexB .any l.toArray = true)
    (h : wpQuiet P l.toArray (fun w' => ∃ x, w' = ext w x) (fun a' => ∀ w', (∃ x, w' = ext w x) → Q .normal a' w') l a) : (Code.region id l.toArray true).wp P Q a w :=
  wp_region_quiet (C := fun w' => ∃ x, w' = ext w x) hm hB ⟨⟨#[], w.drawn + 1⟩, by simp [ext]⟩ (by simpa using h)
theorem bel_of_ext {w w' : World} (h : ∃ x, w' = ext w x) : Below w.heap.size w w' := by obtain ⟨x, rfl⟩ := h; exact Below_ext w x
theorem ext_trans {w w1 w2 : World} (h : ∃ x, w1 = ext w x) (k : ∃ x, w2 = ext w1 x) : ∃ x, w2 = ext w x := by
  obtain ⟨x, rfl⟩ := h; obtain ⟨y, rfl⟩ := k; exact ⟨_, ext_ext w x y⟩
theorem ext_refl (w : World) : ∃ x, w = ext w x := ⟨_, ext_zero w⟩
theorem ext_alloc' {w w1 : World} (h : ∃ x, w1 = ext w x) (o : Obj) : ∃ x, w1.alloc o = ext w x := ext_trans h (ext_alloc w1 o)
theorem ext_ext' {w w1 : World} (h : ∃ x, w1 = ext w x) (y : Ext) : ∃ x, ext w1 y = ext w x := ext_trans h ⟨y, rfl⟩
theorem ext_drew' {w w1 : World} (h : ∃ x, w1 = ext w x) : ∃ x, w1.drew = ext w x := ext_trans h ⟨⟨#[], w1.drawn + 1⟩, by simp only [ext, Array.append_empty]; rfl⟩
theorem ret_bool {a b : Bool} (h : a = b) : Ending.returned (.bool a) = .returned (.bool b) := by rw [h]
theorem ret_int {a b : Int} (h : a = b) : Ending.returned (.int .i64 a) = .returned (.int .i64 b) := by rw [h]
theorem bool_not {b : Bool} (h : (!b) = true) : b = false := by simpa using h
theorem bool_not' {b : Bool} (h : (!b) = false) : b = true := by simpa using h
theorem int_succ (k : Nat) : Value.int .i64 ((k : Int) + 1) = .int .i64 ((k + 1 : Nat) : Int) := by simp
theorem Calls_ext_of2 {P : Program} {f : FuncId} {args : Array Value} {w : World} {b c : Array Obj} {d : Nat} {v : Value}
    (h : Calls P f args (ext w ⟨b ++ c, d⟩) fun e w' => e = .returned v ∧ ∃ y, w' = ext (ext w ⟨b ++ c, d⟩) y) : Calls P f args (ext w ⟨b ++ c, d⟩) fun e w'' => e = .returned v ∧ ∃ y : Ext, w'' = ext w ⟨b ++ y.bs, y.d⟩ :=
  h.mono fun _ _ ⟨he, m, hm⟩ => ⟨he, ⟨c ++ m.bs, m.d⟩, by rw [hm, ext_ext]; simp only [Array.append_assoc]⟩
theorem own_slice {w : World} {B e sz : Nat} {v : Value} {n : Nat} {xs : List Value} (h : w.ownsRow B e sz v n xs) : ∃ a cap, v = .slice a n cap := by
  rcases h.2 with ⟨rfl, rfl⟩ | ⟨g, cap, cur, rfl, _⟩
  · exact ⟨_, _, rfl⟩
  · exact ⟨_, _, rfl⟩
theorem own_move {W W' : World} {x : Ext} {B e sz : Nat} {v : Value} {n : Nat} {xs : List Value} (h : (ext W x).ownsRow B e sz v n xs) (hs : W'.heap.size = W.heap.size) (hB : W.heap.size ≤ B) : (ext W' x).ownsRow B e sz v n xs := by
  refine ⟨h.1, ?_⟩
  rcases h.2 with h2 | ⟨g, cap, cur, h1, h2, h3, h4⟩
  · exact .inl h2
  · refine .inr ⟨g, cap, cur, h1, h2, ?_, h4⟩
    rw [← h3]
    simp only [ext, Array.getElem?_append, hs]
    rw [if_neg (by omega), if_neg (by omega)]
theorem own_base {w : World} {B B' e sz : Nat} {v : Value} {n : Nat} {xs : List Value} (h : w.ownsRow B e sz v n xs) (hB : B' ≤ B) : w.ownsRow B' e sz v n xs := by
  refine ⟨h.1, ?_⟩
  rcases h.2 with h2 | ⟨g, cap, cur, h1, h2, h3⟩
  · exact .inl h2
  · exact .inr ⟨g, cap, cur, h1, Nat.le_trans hB h2, h3⟩
theorem wp_region_heldE {P : Program} {id : Nat} {Q : Exit → Act → World → Prop} {a : Act} {w : World} {ops : Array Oper} (hm : P.follows .mixedOrders = true)
    (h : wpAnyH P .any ops Q (fun w' => ∃ x, w' = ext w x) ops.size (Array.replicate ops.size false) a (ext w ⟨#[], w.drawn + 1⟩)) : (Code.region id ops true).wp P Q a w :=
  wp_region_held hm (by simpa [ext] using h)
theorem takeE {P : Program} {ops : Array Oper} {Q : Exit → Act → World → Prop} {W : World} {i : Nat} {oi : Oper} {v : Value} {fuel : Nat} {listed : Array Bool} {a : Act} {w : World} (hi : ops[i]? = some oi)
    (hs : Region.noSelect ops = true) (hf : Region.free .any ops listed i = true) (hr : (Region.ready .any ops listed).contains i = true)
    (hQ : ∀ c a w, Q (.panic c) (a.put oi.dst v) w → Q (.panic c) a w) (hw : Region.wanted oi (yielded ops a.tmps) = true) (hy : ∀ x, (execOp a.eval oi).run P (ext W x) = .ok (.value v) (ext W x)) (hS : ∃ x, w = ext W x)
    (h : wpAnyH P .any ops Q (fun w' => ∃ x, w' = ext W x) fuel (listed.setIfInBounds i true) (a.put oi.dst v) w) : wpAnyH P .any ops Q (fun w' => ∃ x, w' = ext W x) (fuel + 1) listed a w :=
  wpAnyH_take hi hs hf hr hQ (.inl ⟨hw, by rintro _ ⟨x, rfl⟩; exact hy x⟩) hS h
theorem nextE {P : Program} {ops : Array Oper} {Q : Exit → Act → World → Prop} {S : World → Prop} {i : Nat} {o : Oper} {fuel : Nat} {listed : Array Bool} {a : Act} {w : World} (ho : ops[i]? = some o)
    (hr : Region.ready .any ops listed = [i]) (hw : Region.wanted o (yielded ops a.tmps) = true)
    (h : ∀ K' : Act → World → Prop, Hid (∀ a w, S w → wpAnyH P .any ops Q S fuel (listed.setIfInBounds i true) a w → K' a w) → Oper.wp P o a w K' Q) : wpAnyH P .any ops Q S (fuel + 1) listed a w :=
  wpAnyH_all hr (by simp) fun j hj => by
    obtain rfl : j = i := by simpa using hj
    exact wpOp_step ho (fun K' hK => by rw [if_pos hw]; exact h K' (fun a w hS hW => hK a w ⟨hS, hW⟩))
end
section
open Go.ChangeShapes Go.WideShapes Go.ChangeAt Go.RowKit
/-- the k-th number of a list (0 behind its end); kept closed to simp -/
def nth (xs : List Int) (k : Nat) : Int := xs.getD k 0
def iter {α : Type} (f : Nat → α → α) (a : α) : Nat → α
  | 0 => a
  | n + 1 => f n (iter f a n)
def allTo (p : Nat → Bool) : Nat → Bool
  | 0 => true
  | n + 1 => allTo p n && p n
theorem allTo_false {p : Nat → Bool} {k n : Nat} (h : k < n) (hk : p k = false) : allTo p n = false := by
  induction n with
  | zero => omega
  | succ n ih =>
    simp only [allTo]
    by_cases e : k = n
    · subst e; simp [hk]
    · rw [ih (by omega)]; rfl
theorem allTo_true {p : Nat → Bool} {n : Nat} : allTo p n = true ↔ ∀ k, k < n → p k = true := by
  induction n with
  | zero => simp [allTo]
  | succ n ih =>
    simp only [allTo, Bool.and_eq_true, ih]
    constructor
    · rintro ⟨h1, h2⟩ k hk
      by_cases e : k = n
      · subst e; exact h2
      · exact h1 k (by omega)
    · intro h
      exact ⟨fun k hk => h k (by omega), h n (by omega)⟩
theorem allTo_succ {p : Nat → Bool} {k : Nat} (h : allTo p k = true) (hk : p k = true) : allTo p (k + 1) = true := by simp [allTo, h, hk]
/-- v is a slice of n elements of sz cells each, which hold cs -/
def Sl (w : World) (sz : Nat) (v : Value) (n : Nat) (cs : List Value) : Prop :=
  ∃ a b o cap, v = .slice a n cap ∧ n ≤ cap ∧ cap ≤ maxLen ∧ cs.length = n * sz ∧ (0 < n → a = some ⟨b, o, none⟩ ∧ b < w.heap.size) ∧ ∀ i, i < cs.length → w.cell? ⟨b, o + i, none⟩ = cs[i]?
theorem Sl.mono {w w' : World} {sz : Nat} {v : Value} {n : Nat} {cs : List Value} (h : Sl w sz v n cs) (hb : Below w.heap.size w w') : Sl w' sz v n cs := by
  obtain ⟨a, b, o, cap, rfl, h1, h2, h3, h4, h5⟩ := h
  refine ⟨a, b, o, cap, rfl, h1, h2, h3, fun hn => ⟨(h4 hn).1, Nat.lt_of_lt_of_le (h4 hn).2 hb.size⟩, fun i hi => ?_⟩
  have hn : 0 < n := by
    rcases Nat.eq_zero_or_pos n with e | e
    · subst e; simp at h3; simp [h3] at hi
    · exact e
  rw [← h5 i hi]
  exact hb.cell (p := ⟨b, o + i, none⟩) (h4 hn).2
theorem Sl.ext {w : World} {sz : Nat} {v : Value} {n : Nat} {cs : List Value} (h : Sl w sz v n cs) (x : Ext) : Sl (ext w x) sz v n cs := h.mono (Below_ext w x)
theorem Sl.alloc {w : World} {sz : Nat} {v : Value} {n : Nat} {cs : List Value} (h : Sl w sz v n cs) (o : Obj) : Sl (w.alloc o) sz v n cs :=
  h.mono ((Below.refl _ _).alloc (Nat.le_refl _) o)
theorem Sl_own {w : World} {base e sz : Nat} {v : Value} {n : Nat} {cs : List Value} (h : w.ownsRow base e sz v n cs) : Sl w sz v n cs := by
  obtain ⟨h1, h2⟩ := h
  rcases h2 with ⟨rfl, rfl⟩ | ⟨g, cap, cur, rfl, hb, hg, hnc, hcm, hcs, htake⟩
  · exact ⟨none, 0, 0, 0, rfl, Nat.le_refl _, by simp [maxLen], h1, fun h => absurd h (by omega), fun i hi => by simp at h1; simp [h1] at hi⟩
  · refine ⟨_, g, 0, cap, rfl, hnc, hcm, h1, fun _ => ⟨rfl, (Array.getElem?_eq_some_iff.1 hg).1⟩, fun i hi => ?_⟩
    rw [Nat.zero_add, cell_of_row w g i cur e (0, 0) hg, ← htake, List.getElem?_take, if_pos (by omega)]
    simp
theorem idx_run {t e sz : Nat} {z : Option Value} {P : Program} (ht : P.underlying t = some (.slice e)) (hi : (P.info? e).map (fun i => i.size) = some sz)
    (b o n cap k : Nat) (h : k < n) (w : World) :
    (Instr.indexAt t (.slice (some ⟨b, o, none⟩) n cap) (.int .i64 k)).run P w = .ok (.pointer (some ⟨b, o + k * sz, none⟩)) w := by
  obtain ⟨i, hi1, hi2⟩ := Option.map_eq_some_iff.1 hi
  subst hi2
  simp [Instr.indexAt, asIntOf, run_underlying ht, sizeOf, typeInfo, hi1, h, Addr.add]
theorem Sl.idx {w : World} {sz : Nat} {v : Value} {n : Nat} {cs : List Value} (h : Sl w sz v n cs) {t e : Nat} {P : Program} (ht : P.underlying t = some (.slice e)) (hi : (P.info? e).map (fun i => i.size) = some sz) :
    ∃ a b o cap, v = .slice a n cap ∧ n ≤ cap ∧ n ≤ 9223372036854775807 ∧ cap ≤ 9223372036854775807 ∧ ∀ k, k < n → Old w b ∧ (∀ w', (Instr.indexAt t (.slice a n cap) (.int .i64 k)).run P w' = .ok (.pointer (some ⟨b, o + k * sz, none⟩)) w') ∧
      ∀ j, j < sz → w.cell? ⟨b, o + k * sz + j, none⟩ = cs[k * sz + j]? := by
  obtain ⟨a, b, o, cap, rfl, h1, h2, h3, h4, h5⟩ := h
  unfold maxLen at h2
  refine ⟨a, b, o, cap, rfl, h1, by omega, by omega, fun k hk => ?_⟩
  obtain ⟨rfl, hb⟩ := h4 (by omega)
  refine ⟨⟨hb⟩, fun w' => idx_run (z := none) ht hi b o n cap k hk w', fun j hj => ?_⟩
  have : k * sz + j < n * sz := by
    have : (k + 1) * sz ≤ n * sz := Nat.mul_le_mul_right _ hk
    rw [Nat.add_mul] at this
    omega
  rw [Nat.add_assoc]
  exact h5 _ (by omega)
/-! ### numbers -/
def iv (n : Int) : Value := .int .i64 n
def IntsAt (w : World) (v : Value) (xs : List Int) : Prop := Sl w 1 v xs.length (xs.map iv)
theorem IntsAt.mono {w w' : World} {v : Value} {xs : List Int} (h : IntsAt w v xs) (hb : Below w.heap.size w w') : IntsAt w' v xs := Sl.mono h hb
theorem IntsAt.ext {w : World} {v : Value} {xs : List Int} (h : IntsAt w v xs) (x : Ext) : IntsAt (ext w x) v xs := Sl.ext h x
theorem IntsAt.alloc {w : World} {v : Value} {xs : List Int} (h : IntsAt w v xs) (o : Obj) : IntsAt (w.alloc o) v xs := Sl.alloc h o
theorem nth_get {xs : List Int} {k : Nat} (h : k < xs.length) : xs[k] = nth xs k := by simp [nth, h]
theorem getElem_of_nth {xs : List Int} {k : Nat} (h : k < xs.length) : (xs.map iv)[k]? = some (.int .i64 (nth xs k)) := by
  rw [← nth_get h]; simp [iv, h]
theorem Sl_of_cells {W : World} {sz : Nat} {ad : Addr} {len cap : Nat} {cs : List Value} (h1 : len ≤ cap) (h2 : cap ≤ maxLen) (h3 : cs.length = len * sz) (h0 : 0 < sz) (hc : ∀ i, i < cs.length → W.cell? (ad.add i) = cs[i]?) :
    Sl W sz (.slice (some ad) len cap) len cs := by
  by_cases hp : 0 < len
  · have hp' : 0 < cs.length := by rw [h3]; exact Nat.mul_pos hp h0
    obtain ⟨b, o, spot⟩ := ad
    have hs : spot = none := by
      have := hc 0 hp'
      rw [List.getElem?_eq_getElem hp'] at this
      simpa [Addr.add] using World.cell?_spot this
    subst hs
    refine ⟨_, b, o, cap, rfl, h1, h2, h3, fun _ => ⟨rfl, ?_⟩, fun i hi => ?_⟩
    · have := hc 0 hp'
      rw [List.getElem?_eq_getElem hp'] at this
      simp only [Addr.add, if_true] at this
      exact World.block_lt_of_cell? W ⟨b, o, none⟩ this
    · rw [← hc i hi, Go.WideShapes.add_plain]
  · obtain rfl : len = 0 := by omega
    exact ⟨_, 0, 0, cap, rfl, h1, h2, h3, fun h => absurd h hp, fun i hi => by simp at h3; simp [h3] at hi⟩
end
section
open Go.ChangeShapes Go.WideShapes Go.ChangeAt Go.RowKit
/-- one row: its value, the element's type, the cells of an element, the number of elements, the cells -/
structure Row where
  v : Value
  e : Nat
  sz : Nat
  n : Nat
  cs : List Value
/-- since W0 nothing old has changed; the rows L are the call's own, each in a block of its own -/
structure Held (W0 w : World) (L : List Row) : Prop where
  bel : Below W0.heap.size W0 w
  own : ∀ r ∈ L, w.ownsRow W0.heap.size r.e r.sz r.v r.n r.cs
  apart : L.Pairwise fun r r' => ∀ g, r.v.ownBlock = some g → r'.v.ownBlock ≠ some g
theorem Held.start (w : World) : Held w w [] := ⟨Below.refl _ _, (fun r h => by cases h), List.Pairwise.nil⟩
theorem Held.le {W0 w : World} {L : List Row} (H : Held W0 w L) : W0.heap.size ≤ w.heap.size := H.bel.size
theorem Held.grow {W0 w w' : World} {L : List Row} (H : Held W0 w L) (h : Below w.heap.size w w') : Held W0 w' L := by
  refine ⟨H.bel.trans (h.mono H.le), fun r hr => ?_, H.apart⟩
  have ho := H.own r hr
  refine ⟨ho.1, ?_⟩
  rcases ho.2 with h2 | ⟨g, cap, cur, h1, h2, h3, h4⟩
  · exact .inl h2
  · exact .inr ⟨g, cap, cur, h1, h2, by rw [h.block g (Array.getElem?_eq_some_iff.1 h3).1]; exact h3, h4⟩
theorem Held.ext {W0 w : World} {L : List Row} (H : Held W0 w L) (x : Ext) : Held W0 (ext w x) L := H.grow (Below_ext w x)
theorem Held.to {W0 w w' : World} {L : List Row} (H : Held W0 w L) (h : ∃ x, w' = Proofs.Ytchcepihmphdmaa.ext w x) : Held W0 w' L := H.grow (bel_of_ext h)
/-- a row that was made since w -/
theorem Held.push {W0 w w' : World} {L : List Row} {v : Value} {e sz n : Nat} {cs : List Value} (H : Held W0 w L) (h : Below w.heap.size w w') (ho : w'.ownsRow w.heap.size e sz v n cs) : Held W0 w' (⟨v, e, sz, n, cs⟩ :: L) := by
  have H' := H.grow h
  refine ⟨H'.bel, fun r hr => ?_, List.Pairwise.cons (fun r hr g hg hg' => ?_) H'.apart⟩
  · rcases List.mem_cons.1 hr with rfl | hr
    · exact own_base ho H.le
    · exact H'.own r hr
  · have h1 := (ho.lt g hg).1
    have h2 := ((H.own r hr).lt g hg').2
    omega
theorem Held.drop {W0 w : World} {L : List Row} {r : Row} (H : Held W0 w (r :: L)) : Held W0 w L :=
  ⟨H.bel, fun r' h => H.own r' (List.mem_cons_of_mem _ h), H.apart.of_cons⟩
theorem Held.sl {W0 w : World} {L : List Row} (H : Held W0 w L) {v : Value} {e sz n : Nat} {cs : List Value} (h : (⟨v, e, sz, n, cs⟩ : Row) ∈ L) : Sl w sz v n cs := Sl_own (H.own _ h)
theorem Held.old {W0 w : World} {L : List Row} (H : Held W0 w L) {v : Value} {sz n : Nat} {cs : List Value} (h : Sl W0 sz v n cs) : Sl w sz v n cs := h.mono H.bel
/-- the first row's cells have changed, nothing else -/
theorem Held.write {W0 w w' : World} {L : List Row} {r : Row} {cs : List Value} (H : Held W0 w (r :: L)) (hg : w.grownBy w' r.v.ownBlock) (ho : w'.ownsRow W0.heap.size r.e r.sz r.v r.n cs) : Held W0 w' (⟨r.v, r.e, r.sz, r.n, cs⟩ :: L) := by
  have hr0 := H.own r List.mem_cons_self
  refine ⟨H.bel.grown hg H.le (fun k hk => (hr0.lt k hk).1), fun r' hr' => ?_, ?_⟩
  · rcases List.mem_cons.1 hr' with rfl | hr'
    · exact ho
    · refine (H.own r' (List.mem_cons_of_mem _ hr')).kept hg ?_
      cases hb : r'.v.ownBlock with
      | none => exact .inl rfl
      | some g =>
        refine .inr fun e => ?_
        exact (List.pairwise_cons.1 H.apart).1 r' hr' g e.symm hb
  · exact List.Pairwise.cons (List.pairwise_cons.1 H.apart).1 H.apart.of_cons
theorem Held.swap {W0 w : World} {L : List Row} {r r' : Row} (H : Held W0 w (r :: r' :: L)) : Held W0 w (r' :: r :: L) := by
  refine ⟨H.bel, fun q hq => H.own q (by simp only [List.mem_cons] at hq ⊢; rcases hq with h | h | h <;> simp [h]), ?_⟩
  have h := H.apart
  rw [List.pairwise_cons, List.pairwise_cons] at h
  rw [List.pairwise_cons, List.pairwise_cons]
  refine ⟨fun q hq g hg hg' => ?_, fun q hq => h.1 q (List.mem_cons_of_mem _ hq), h.2.2⟩
  rcases List.mem_cons.1 hq with rfl | hq
  · exact h.1 r' List.mem_cons_self g hg' hg
  · exact h.2.1 q hq g hg hg'
/-- any row to the front -/
theorem Held.front {W0 w : World} {L L' : List Row} (H : Held W0 w L) (p : L.Perm L') : Held W0 w L' := by
  refine ⟨H.bel, fun q hq => H.own q (p.mem_iff.2 hq), ?_⟩
  refine (p.pairwise_iff fun {r r'} h g hg hg' => ?_).1 H.apart
  exact h g hg' hg
theorem Held.fresh {W0 w1 w' : World} {v : Value} {e sz n : Nat} {cs : List Value} (ho : w'.ownsRow w1.heap.size e sz v n cs) (h1 : ∃ x, w1 = Proofs.Ytchcepihmphdmaa.ext W0 x) (h2 : ∃ x, w' = Proofs.Ytchcepihmphdmaa.ext w1 x) : Held W0 w' [⟨v, e, sz, n, cs⟩] :=
  ((Held.start W0).to h1).push (bel_of_ext h2) ho
theorem Held.append {W0 w w' : World} {L : List Row} {r : Row} {v' : Value} {n' : Nat} {cs' : List Value} (H : Held W0 w (r :: L)) (hg : w.grownBy w' r.v.ownBlock) (ho : w'.ownsRow W0.heap.size r.e r.sz v' n' cs')
    (hat : v'.ownBlock = r.v.ownBlock ∨ v'.ownBlock = some w.heap.size ∨ v'.ownBlock = none) : Held W0 w' (⟨v', r.e, r.sz, n', cs'⟩ :: L) := by
  have hr0 := H.own r List.mem_cons_self
  refine ⟨H.bel.grown hg H.le (fun k hk => (hr0.lt k hk).1), fun r' hr' => ?_, List.Pairwise.cons (fun r' hr' g hg1 hg2 => ?_) H.apart.of_cons⟩
  · rcases List.mem_cons.1 hr' with rfl | hr'
    · exact ho
    · refine (H.own r' (List.mem_cons_of_mem _ hr')).kept hg ?_
      cases hb : r'.v.ownBlock with
      | none => exact .inl rfl
      | some g =>
        refine .inr fun e => ?_
        exact (List.pairwise_cons.1 H.apart).1 r' hr' g e.symm hb
  · have h1 := ((H.own r' (List.mem_cons_of_mem _ hr')).lt g hg2).2
    simp only at hg1
    rcases hat with h | h | h
    · exact (List.pairwise_cons.1 H.apart).1 r' hr' g (by rw [← h]; exact hg1) hg2
    · rw [h] at hg1; cases hg1; omega
    · rw [h] at hg1; cases hg1
/-- rows that a callee has made -/
theorem Held.join {W0 w w' : World} {L L' : List Row} (H : Held W0 w L) (K : Held w w' L') : Held W0 w' (L' ++ L) := by
  have H' := H.grow K.bel
  refine ⟨H'.bel, fun r hr => ?_, List.pairwise_append.2 ⟨K.apart, H'.apart, fun r hr r' hr' g hg hg' => ?_⟩⟩
  · rcases List.mem_append.1 hr with hr | hr
    · exact own_base (K.own r hr) H.le
    · exact H'.own r hr
  · have h1 := ((K.own r hr).lt g hg).1
    have h2 := ((H.own r' hr').lt g hg').2
    omega
/-- an empty slice that was made -/
theorem Held.empty {W0 w : World} {L : List Row} (H : Held W0 w L) (e sz : Nat) : Held W0 (w.alloc (.cells #[] e)) (⟨.slice (some ⟨w.heap.size, 0, none⟩) 0 0, e, sz, 0, []⟩ :: L) :=
  H.push ((Below.refl _ _).alloc (Nat.le_refl _) _) (World.ownsRow_made w #[] 0 (Nat.le_refl _) (by simp [maxLen]) (by simp))
theorem perm_pull {α : Type} {r : α} : ∀ (L : List α) (i : Nat), L[i]? = some r → L.Perm (r :: L.eraseIdx i)
  | [], i, h => by simp at h
  | x :: L, 0, h => by
    have : x = r := by simpa using h
    subst this
    exact List.Perm.refl _
  | x :: L, i + 1, h => by
    have := perm_pull L i (by simpa using h)
    exact (List.Perm.cons x this).trans (List.Perm.swap _ _ _)
/-- row i to the front -/
theorem Held.pull {W0 w : World} {L : List Row} {r : Row} (H : Held W0 w L) (i : Nat) (h : L[i]? = some r) : Held W0 w (r :: L.eraseIdx i) := H.front (perm_pull L i h)
/-- what append and make ask of a slice type t with elements of type e -/
structure Elem (P : Program) (t e size bytes : Nat) (z : Value) : Prop where
  ut : P.underlying t = some (.slice e)
  info : (P.info? e).map (fun i => (i.zero, i.size, i.bytes)) = some (some z, size, bytes)
  zs : z.cells.size = size
  pos : 0 < size
/-! ### append -/
theorem run_append_sl {P : Program} (w : World) (base : Nat) (t ty e : TypeId) (z : Value) (size bytes : Nat) (E : Elem P t e size bytes z) (v u : Value) (n m : Nat) (xs news : List Value) (hown : w.ownsRow base e size v n xs) (hsl : Sl w size u m news) (h1 : ∀ u ∈ news, u.oneCell' = true)
    (h63 : n + m ≤ maxLen) (hbytes : (n + m) * bytes ≤ 140737488355328) (hbase : base ≤ w.heap.size) :
    ∃ v' w', (Builtin.append_ #[t, t] ty #[v, u]).run P w = .ok v' w' ∧ w'.ownsRow base e size v' (n + m) (xs ++ news) ∧ w.grownBy w' v.ownBlock ∧ (v'.ownBlock = v.ownBlock ∨ v'.ownBlock = some w.heap.size ∨ v'.ownBlock = none) := by
  obtain ⟨i, hi, hz, hsize, hby⟩ := info_parts E.info
  have ht := E.ut
  obtain ⟨a, b, o, cap, rfl, s1, s2, s3, s4, s5⟩ := hsl
  rcases Nat.eq_zero_or_pos m with rfl | hm
  · have hnews : news = [] := List.eq_nil_of_length_eq_zero (by simpa using s3)
    subst hnews
    have hr : (Builtin.append_ #[t, t] ty #[v, .slice a 0 cap]).run P w = .ok v w := by
      have e0 : (Builtin.firstCells size 0 (.slice a 0 cap)).run P w = .ok #[] w := by
        cases a <;> simp [Builtin.firstCells, loadCells, loadCellsFrom]
      rcases hown.2 with ⟨rfl, rfl⟩ | ⟨g, cap', cur, rfl, _, _, hnc, _⟩
      · simp [Builtin.append_, run_underlying ht, sizeOf, typeInfo, hi, Builtin.lenOf, hsize, e0]
      · simp [Builtin.append_, run_underlying ht, sizeOf, typeInfo, hi, Builtin.lenOf, hsize, e0, hnc, storeCells]
    exact ⟨v, w, hr, by simpa using hown, World.grownBy.refl _ _, .inl rfl⟩
  · obtain ⟨rfl, hb⟩ := s4 hm
    obtain ⟨g, cap', w', h2, h3, h4, h5, _⟩ := run_append_lies (P := P) w t ty base e i z size bytes ht hi hz hsize hby E.zs E.pos v n xs hown ⟨b, o, none⟩ m cap news s3 (fun j u hu => by
      have hj := (List.getElem?_eq_some_iff.1 hu).1
      rw [Go.WideShapes.add_plain, s5 j hj, hu]) h1 hm h63 hbytes hbase w.heap.size rfl
    refine ⟨_, w', h2, h3, h4, ?_⟩
    rcases h5 with h5 | h5
    · exact .inl h5.symm
    · exact .inr (.inl (by rw [h5]; rfl))
theorem wpList_append_held {P : Program} {W0 : World} {w : World} {L : List Row} {ops : Array Oper} {rest : List Oper} {o : Oper} {a : Act} {Q : Exit → Act → World → Prop} (hgd : o.guard = none) (s x : Operand) (t : TypeId)
    (ho : o.op = .call { callee := .builtin .append, args := #[s, x], argTypes := #[t, t] })
    {e size bytes : Nat} {z : Value} (E : Elem P t e size bytes z) {v u : Value} {n m : Nat} {xs news : List Value} (H : Held W0 w (⟨v, e, size, n, xs⟩ :: L)) (hs : a.eval s = v) (hx : a.eval x = u) (hsl : Sl w size u m news) (h1 : ∀ u ∈ news, u.oneCell' = true)
    (h63 : n + m ≤ maxLen) (hbytes : (n + m) * bytes ≤ 140737488355328)
    (h : ∀ v' w', Held W0 w' (⟨v', e, size, n + m, xs ++ news⟩ :: L) → wpList P ops Q rest (a.put o.dst v') w') : wpList P ops Q (o :: rest) a w := by
  refine wpList_plain hgd fun K hK => ?_
  obtain ⟨v', w', hr, h2, h3, h4⟩ := run_append_sl (P := P) w W0.heap.size t o.type e z size bytes E v u n m xs news (H.own _ List.mem_cons_self) hsl h1 h63 hbytes H.le
  unfold Oper.wp execOp
  simp only [ho, resolve, invoke, builtin, Sem.run_bind, Sem.run_pure, Result.andThen_ok, List.map_toArray, List.map_cons, List.map_nil, hs, hx, hr]
  exact hK _ _ (h v' w' (H.append h3 h2 h4))
theorem wpList_make_held {P : Program} {W0 : World} {w : World} {L : List Row} {ops : Array Oper} {rest : List Oper} {o : Oper} {a : Act} {Q : Exit → Act → World → Prop}
    (hg : o.guard = none) (l c : Operand) (t : TypeId) (hop : o.op = Op.makeSlice t l c) {e size bytes : Nat} {z : Value} (E : Elem P t e size bytes z) (H : Held W0 w L)
    (kl kc : IntKind) (N C : Int) (n : Nat) (hl : a.eval l = .int kl N) (hc : a.eval c = .int kc C) (hL : N = (n : Int)) (hC : C = (n : Int)) (b2 : bytes * n ≤ 281474976710656) (b3 : n ≤ maxLen)
    (hK : ∀ w', Held W0 w' (⟨.slice (some ⟨w.heap.size, 0, none⟩) n n, e, size, n, (madeCells z.cells (n * size)).toList⟩ :: L) → wpList P ops Q rest (a.put o.dst (.slice (some ⟨w.heap.size, 0, none⟩) n n)) w') :
    wpList P ops Q (o :: rest) a w := by
  obtain ⟨i, hi, hz, hsize, hby⟩ := info_parts E.info
  refine wpList_make_full w hg l c t hop w.heap.size e i z size E.ut hi hz hsize kl kc N C n hl hc hL hC (by rw [hby]; exact b2) b3 (Nat.le_refl _) fun w' h1 h2 => hK w' (H.push ((Below.refl _ _).grown h2 (Nat.le_refl _) (fun k hk => by cases hk)) h1)
theorem Sl_new1 (w : World) (u : Value) (t : TypeId) : Sl (w.alloc (.cells #[u] t)) 1 (.slice (some ⟨w.heap.size, 0, none⟩) 1 1) 1 [u] := by
  refine ⟨_, w.heap.size, 0, 1, rfl, Nat.le_refl _, by simp [maxLen], rfl, fun _ => ⟨rfl, by simp⟩, fun i hi => ?_⟩
  rw [Nat.zero_add, World.cell?_alloc_at _ _ _ _ rfl]
  simp
/-- a new block of cells, read as a slice -/
theorem Sl_new (w : World) (cs : Array Value) (t : TypeId) (sz n : Nat) (h : cs.size = n * sz) (hn : n ≤ maxLen) (hsz : 0 < sz) : Sl (w.alloc (.cells cs t)) sz (.slice (some ⟨w.heap.size, 0, none⟩) n n) n cs.toList := by
  refine ⟨_, w.heap.size, 0, n, rfl, Nat.le_refl _, hn, by simpa using h, fun _ => ⟨rfl, by simp⟩, fun i hi => ?_⟩
  rw [Nat.zero_add, World.cell?_alloc_at _ _ _ _ rfl]
  simp
end
section
open Go.ChangeShapes Go.WideShapes Go.ChangeAt Go.RowKit
theorem infoInt : (Try.prog.info? 3).map (fun i => i.size) = some 1 := by kernel_rfl
theorem infoInt3 : (Try.prog.info? 3).map (fun i => (i.zero, i.size, i.bytes)) = some (some (.int .i64 0), 1, 8) := by kernel_rfl
theorem IntsAt.opn {w : World} {v : Value} {xs : List Int} (h : IntsAt w v xs) :
    ∃ a b o cap, v = .slice a xs.length cap ∧ xs.length ≤ cap ∧ xs.length ≤ 9223372036854775807 ∧ cap ≤ 9223372036854775807 ∧ ∀ k, k < xs.length → Old w b ∧ (∀ w', (Instr.indexAt 22 (.slice a xs.length cap) (.int .i64 k)).run Try.prog w' = .ok (.pointer (some ⟨b, o + k, none⟩)) w') ∧
      w.cell? ⟨b, o + k, none⟩ = some (.int .i64 (nth xs k)) := by
  obtain ⟨a, b, o, cap, rfl, h1, h2, h3, h4⟩ := Sl.idx h Try.underlying22 infoInt
  refine ⟨a, b, o, cap, rfl, h1, h2, h3, fun k hk => ?_⟩
  obtain ⟨g1, g2, g3⟩ := h4 k hk
  refine ⟨g1, fun w' => by have := g2 w'; rwa [Nat.mul_one] at this, ?_⟩
  have := g3 0 (by omega)
  rw [Nat.mul_one, Nat.add_zero, Nat.add_zero] at this
  rw [this, getElem_of_nth hk]
theorem slice_to (a : Option Addr) (n cap k : Nat) (h : k ≤ cap) (w : World) :
    (Instr.slice 22 (.slice a n cap) none (some (.int .i64 k)) none).run Try.prog w = .ok (.slice a k cap) w := by
  obtain ⟨i, h1, h2⟩ := Option.map_eq_some_iff.1 infoInt
  have e : (fun x : Addr => x.add 0) = id := by funext x; simp [Addr.add]
  simp [Instr.slice, run_underlying Try.underlying22, Instr.sliceBounds, Instr.sliceBound, asIntOf, h, sizeOf, typeInfo, h1, e]
theorem IntsAt.take {w : World} {a : Option Addr} {n cap : Nat} {l : List Int} (h : IntsAt w (.slice a n cap) l) {k : Nat} (hk : k ≤ l.length) : IntsAt w (.slice a k cap) (l.take k) := by
  obtain ⟨a', b, o, cap', e, h1, h2, h3, h4, h5⟩ := h
  simp only [Value.slice.injEq] at e
  obtain ⟨rfl, rfl, rfl⟩ := e
  have hl : (l.take k).length = k := by simp; omega
  refine ⟨a, b, o, cap, by rw [hl], by omega, h2, by simp, fun hn => h4 (by omega), fun i hi => ?_⟩
  have hi' : i < k := by simp at hi; omega
  rw [h5 i (by simp; omega), List.map_take, List.getElem?_take, if_pos hi']
theorem nth_take {l : List Int} {k i : Nat} (h : i < k) : nth (l.take k) i = nth l i := by simp [nth, List.getD, h]
end
section
open Go.ChangeShapes Go.WideShapes Go.ChangeAt Go.RowKit
/-- the call's own row: a fresh slice -/
abbrev OwnI (w : World) (B : Nat) (v : Value) (xs : List Int) : Prop := w.ownsRow B 3 1 v xs.length (xs.map iv)
theorem IntsAt_own {w : World} {B : Nat} {v : Value} {xs : List Int} (h : OwnI w B v xs) : IntsAt w v xs := Sl_own h
theorem OwnI.ext {w : World} {B : Nat} {v : Value} {xs : List Int} (h : OwnI w B v xs) (x : Ext) : OwnI (ext w x) B v xs := by
  refine ⟨h.1, ?_⟩
  rcases h.2 with h2 | ⟨g, cap, cur, h1, h2, h3, h4⟩
  · exact .inl h2
  · exact .inr ⟨g, cap, cur, h1, h2, by rw [heap_ext w x (Array.getElem?_eq_some_iff.1 h3).1]; exact h3, h4⟩
/-- k elements written, the rest noughts -/
def part (xs : List Int) (k : Nat) : List Value := (xs.take k).map iv ++ List.replicate (xs.length - k) (iv 0)
theorem part_zero (xs : List Int) : part xs 0 = List.replicate xs.length (iv 0) := by simp [part]
theorem part_all (xs : List Int) : part xs xs.length = xs.map iv := by simp [part]
theorem part_step (xs : List Int) (k : Nat) (h : k < xs.length) : (part xs k).set k (iv (nth xs k)) = part xs (k + 1) := by
  apply List.ext_getElem?
  intro i
  simp only [part, List.getElem?_set, List.getElem?_append, List.getElem?_map, List.getElem?_take, List.length_map, List.length_take, List.length_append, List.length_replicate, List.getElem?_replicate]
  by_cases hi : k = i
  · subst hi
    simp [h, nth, show k < min (k + 1) xs.length by omega, show k < min k xs.length + (xs.length - k) by omega]
  · simp only [hi, if_false]
    by_cases h2 : i < k
    · simp [show i < min k xs.length by omega, show i < min (k + 1) xs.length by omega, h2, show i < k + 1 by omega]
    · simp only [show ¬ i < min k xs.length by omega, show ¬ i < min (k + 1) xs.length by omega, if_false]
      by_cases h3 : i < xs.length
      · rw [if_pos (by omega), if_pos (by omega)]
      · rw [if_neg (by omega), if_neg (by omega)]
theorem part_length (xs : List Int) (k : Nat) (h : k ≤ xs.length) : (part xs k).length = xs.length := by simp [part]; omega
theorem part_cell (xs : List Int) (k : Nat) (h : k < xs.length) : ∃ u, (part xs k)[k]? = some u := by
  have := part_length xs k (by omega)
  exact ⟨(part xs k)[k], by simp [this, h]⟩
theorem madeOne (z : Value) (n : Nat) : (madeCells #[z] n).toList = List.replicate n z := by
  apply List.ext_getElem?
  intro i
  by_cases h : i < n <;> simp [madeCells, h, Nat.mod_one]
theorem toIntS_any (xs : List Int) (v : Value) (w : World) (h : IntsAt w v xs) (hs : xs.length ≤ 1099511627776) :
    Calls Try.prog 44 #[v] w fun e w' => ∃ v', e = .returned v' ∧ (∃ x, w' = ext w x) ∧ OwnI w' w.heap.size v' xs := by
  obtain ⟨a, b, o, cap, rfl, hc1, hc2, hc3, hcell⟩ := h.opn
  obtain ⟨i0, hi, hz0, hz1, hz2⟩ := info_parts infoInt3
  have HZ2 := Lib.hid hz2
  have HZ1 := Lib.hid hz1
  have HZ0 := Lib.hid hz0
  have HI := Lib.hid hi
  clear hz0 hz1 hz2 hi
  go_enter Try.func44, Try.ntmps44
  go_wp2_with (first | (at_make; refine wpList_make_full _ rfl _ _ 22 rfl w.heap.size 3 i0 (.int .i64 0) 1 Try.underlying22 HI.out HZ0.out HZ1.out .i64 .i64 _ _ xs.length rfl rfl rfl rfl (by rw [HZ2.out]; omega) (by unfold maxLen; omega) (Nat.le_refl _) ?_; intro w1 hown hgrow))
  have hz : (madeCells (Value.int .i64 0).cells (xs.length * 1)).toList = part xs 0 := by rw [part_zero, Nat.mul_one]; exact madeOne _ _
  rw [hz] at hown
  have hbel : Below w.heap.size w w1 := (Below.refl _ _).grown hgrow (Nat.le_refl _) (fun k hk => by cases hk)
  clear hz hgrow
  go_loopw [4] (fun i wr => ∃ k : Nat, k ≤ xs.length ∧ i = .int .i64 k ∧ wr.ownsRow w.heap.size 3 1 (.slice (some ⟨w.heap.size, 0, none⟩) xs.length xs.length) xs.length (part xs k) ∧ Below w.heap.size w wr) (fun i _ => xs.length - (intOf i).toNat)
  case atStart => exact ⟨0, Nat.zero_le _, rfl, hown, hbel⟩
  case round =>
    clear hown hbel
    obtain ⟨k, hk, rfl, hown, hbel⟩ := hrel
    by_cases hlt : k < xs.length
    · obtain ⟨hb, hi, hck⟩ := hcell k hlt
      clear hcell
      have hck2 : wr.cell? ⟨b, o + k, none⟩ = some (.int .i64 (nth xs k)) := by rw [hbel.cell (p := ⟨b, o + k, none⟩) hb.lt]; exact hck
      obtain ⟨u, hu⟩ := part_cell xs k hlt
      have hc0 : wr.cell? ⟨w.heap.size, k, none⟩ = some u := by rw [hown.cellAt k (by omega), hu]
      have hf0 : wr.frozen? ⟨w.heap.size, k, none⟩ = false := hown.frozenAt k
      have hst := hown.stored k (iv (nth xs k))
      rw [part_step xs k hlt] at hst
      have HST := Lib.hid hst
      have HOW := Lib.hid hown
      clear hst hown hu
      go_wp2_with fail
      go_roundw
      case rel => exact ⟨k + 1, hlt, int_succ k, HST.out.1, hbel.setCell (Nat.le_refl _) _⟩
      case measure => simp [intOf]; omega
    · go_wp2_with fail
      go_ret
      obtain rfl : k = xs.length := by omega
      rw [part_all] at hown
      obtain ⟨x, rfl⟩ := ext_of hbel
      exact ⟨_, rfl, ⟨x, rfl⟩, hown⟩
def eqInts (a b : List Int) : Bool := decide (a.length = b.length) && allTo (fun k => nth a k == nth b k) a.length
theorem eqInts_self (a : List Int) : eqInts a a = true := by simp [eqInts, allTo_true]
theorem eqInts_eq {a b : List Int} (h : eqInts a b = true) : a = b := by
  simp [eqInts, allTo_true, nth] at h
  apply List.ext_getElem h.1
  intro i h1 h2
  have := h.2 i h1
  simpa [h1, h2] using this
theorem eqIntS_any (xs ys : List Int) (v u : Value) (w : World) (h : IntsAt w v xs) (h' : IntsAt w u ys) :
    Calls Try.prog 51 #[v, u] w fun e w' => e = .returned (.bool (eqInts xs ys)) ∧ ∃ x, w' = ext w x := by
  obtain ⟨a, b, o, cap, rfl, hc1, hc2, hc3, hcell⟩ := h.opn
  obtain ⟨a', b', o', cap', rfl, hc1', hc2', hc3', hcell'⟩ := h'.opn
  by_cases hl : xs.length = ys.length
  · have hne : ((xs.length : Int) != ys.length) = false := by simp [hl]
    have HL := Lib.hid hl
    have hle : xs.length ≤ ys.length := by omega
    clear hl
    go_enter Try.func51, Try.ntmps51
    go_wp2_with fail
    go_loopw [5] (fun i wr => ∃ k : Nat, k ≤ xs.length ∧ i = .int .i64 k ∧ allTo (fun k => nth xs k == nth ys k) k = true ∧ ∃ x, wr = ext w x) (fun i _ => xs.length - (intOf i).toNat)
    case atStart => exact ⟨0, Nat.zero_le _, rfl, rfl, (by repeat (first | exact ext_refl _ | (with_reducible assumption) | refine ext_ext' ?_ _ | refine ext_alloc' ?_ _ | refine ext_drew' ?_))⟩
    case round =>
      obtain ⟨k, hk, rfl, hall, x, rfl⟩ := hrel
      have HA := Lib.hid hall
      clear hall
      by_cases hlt : k < xs.length
      · obtain ⟨hb, hi, hck⟩ := hcell k hlt
        obtain ⟨hb', hi', hck'⟩ := hcell' k (by omega)
        clear hcell hcell'
        cases hq : nth xs k == nth ys k
        all_goals
          have hq' : (nth xs k != nth ys k) = !(nth xs k == nth ys k) := rfl
          rw [hq] at hq'
          go_wp2_with fail
          refine wp_region_ext_lit (by kernel_rfl) (by kernel_rfl) ?_
          repeat (go_big_quiet_step (fail))
          refine wpQuiet_nil ?_
          intro _ hwq
          obtain ⟨xq, hwq⟩ := hwq
          subst hwq
          go_wp2_with fail
        · go_ret
          exact ⟨ret_bool (by simp only [eqInts, allTo_false (p := fun k => nth xs k == nth ys k) hlt hq, Bool.and_false]), (by repeat (first | exact ext_refl _ | (with_reducible assumption) | refine ext_ext' ?_ _ | refine ext_alloc' ?_ _ | refine ext_drew' ?_))⟩
        · go_roundw
          case rel => exact ⟨k + 1, hlt, int_succ k, allTo_succ HA.out hq, (by repeat (first | exact ext_refl _ | (with_reducible assumption) | refine ext_ext' ?_ _ | refine ext_alloc' ?_ _ | refine ext_drew' ?_))⟩
          case measure => simp [intOf]; omega
      · go_wp2_with fail
        go_ret
        obtain rfl : k = xs.length := by omega
        exact ⟨ret_bool (by rw [eqInts, HA.out, decide_eq_true HL.out]; rfl), (by repeat (first | exact ext_refl _ | (with_reducible assumption) | refine ext_ext' ?_ _ | refine ext_alloc' ?_ _ | refine ext_drew' ?_))⟩
  · have hne : ((xs.length : Int) != ys.length) = true := by simp; omega
    have HL := Lib.hid hl
    clear hl
    go_enter Try.func51, Try.ntmps51
    go_wp2_with fail
    go_ret
    exact ⟨ret_bool (by simp [eqInts, HL.out]), (by repeat (first | exact ext_refl _ | (with_reducible assumption) | refine ext_ext' ?_ _ | refine ext_alloc' ?_ _ | refine ext_drew' ?_))⟩
end
section
open Go.ChangeShapes Go.WideShapes Go.ChangeAt Go.RowKit
def marks (k : Int) (n : Nat) : List Int := (List.range n).map fun i : Nat => k + (i : Int)
theorem marks_len (k : Int) (n : Nat) : (marks k n).length = n := by simp [marks]
theorem marks_nth (k : Int) (n i : Nat) (h : i < n) : nth (marks k n) i = k + i := by simp [marks, nth, List.getD, h]
/-- j elements marked -/
def marked (xs : List Int) (k : Int) (j : Nat) : List Value := (marks k j).map iv ++ (xs.drop j).map iv
theorem marked_zero (xs : List Int) (k : Int) : marked xs k 0 = xs.map iv := by simp [marked, marks]
theorem marked_all (xs : List Int) (k : Int) : marked xs k xs.length = (marks k xs.length).map iv := by simp [marked]
theorem marked_step (xs : List Int) (k : Int) (j : Nat) (h : j < xs.length) : (marked xs k j).set j (iv (k + j)) = marked xs k (j + 1) := by
  have e1 : ((marks k j).map iv).length = j := by simp [marks]
  have e2 : (marks k (j + 1)) = marks k j ++ [k + (j : Int)] := by simp [marks, List.range_succ]
  have e3 : xs.drop j = xs[j] :: xs.drop (j + 1) := List.drop_eq_getElem_cons h
  have e4 : (xs.drop j).map iv = iv xs[j] :: (xs.drop (j + 1)).map iv := by rw [e3]; rfl
  rw [marked, marked, e2, e4, List.set_append_right _ _ (by omega), e1, Nat.sub_self, List.set_cons_zero, List.map_append, List.append_assoc]
  rfl
theorem marked_cell (xs : List Int) (k : Int) (j : Nat) (h : j < xs.length) : ∃ u, (marked xs k j)[j]? = some u := by
  have : j < (marked xs k j).length := by simp [marked, marks]; omega
  exact ⟨_, List.getElem?_eq_getElem this⟩
theorem grown_trans {a b c : World} {row : Option Nat} (h : a.grownBy b row) (k : b.grownBy c row) : a.grownBy c row :=
  ⟨k.os.trans h.os, k.tape.trans h.tape, k.output.trans h.output, Nat.le_trans h.size k.size, fun i hi hne => (k.block i (Nat.lt_of_lt_of_le hi h.size) hne).trans (h.block i hi hne)⟩
theorem markIntS_any (xs : List Int) (v : Value) (k : Int) (B : Nat) (w : World) (ho : OwnI w B v xs) (h0 : 0 ≤ k) (h1 : k ≤ 1099511627776) (hs : xs.length ≤ 1099511627776) :
    Calls Try.prog 52 #[v, .int .i64 k] w fun e w' => e = .returned (.int .i64 (k + xs.length)) ∧ w.grownBy w' v.ownBlock ∧ OwnI w' B v (marks k xs.length) := by
  have hlen : (marks k xs.length).length = xs.length := marks_len k _
  rcases ho.2 with ⟨rfl, hn⟩ | ⟨g, cap, cur, rfl, hB, hg, hnc, hcm, hcs, htk⟩
  · have hx : xs = [] := List.eq_nil_of_length_eq_zero hn
    subst hx
    go_enter Try.func52, Try.ntmps52
    go_wp2_with fail
    go_loop [1, 5] (fun kk i => i = .int .i64 0 ∧ kk = .int .i64 k) (fun _ _ => 0)
    case atStart => exact ⟨rfl, rfl⟩
    case round =>
      obtain ⟨rfl, rfl⟩ := hrel
      go_wp2_with fail
      go_ret
      exact ⟨ret_int (by simp), World.grownBy.refl _ _, by simpa [marks] using ho⟩
  · have HO := Lib.hid ho
    have hz := marked_zero xs k
    have hB' : Old w g := ⟨(Array.getElem?_eq_some_iff.1 hg).1⟩
    unfold maxLen at hcm
    clear hcs htk hg ho
    go_enter Try.func52, Try.ntmps52
    go_wp2_with fail
    go_loopw [1, 5] (fun kk i wr => ∃ j : Nat, j ≤ xs.length ∧ i = .int .i64 j ∧ kk = .int .i64 (k + j) ∧ wr.ownsRow B 3 1 (.slice (some ⟨g, 0, none⟩) xs.length cap) xs.length (marked xs k j) ∧ w.grownBy wr (some g)) (fun _ i _ => xs.length - (intOf i).toNat)
    case atStart => exact ⟨0, Nat.zero_le _, rfl, by simp, by rw [hz]; exact HO.out, World.grownBy.refl _ _⟩
    case round =>
      clear hz
      obtain ⟨j, hj, rfl, rfl, hown, hgr⟩ := hrel
      by_cases hlt : j < xs.length
      · obtain ⟨u, hu⟩ := marked_cell xs k j hlt
        have hc0 : wr.cell? ⟨g, j, none⟩ = some u := by rw [hown.cellAt j (by omega), hu]
        have hf0 : wr.frozen? ⟨g, j, none⟩ = false := hown.frozenAt j
        have hst := hown.stored j (iv (k + j))
        rw [marked_step xs k j hlt] at hst
        have HST := Lib.hid hst
        have HG := Lib.hid hgr
        clear hst hown hu hgr
        go_wp2_with fail
        go_roundw
        case rel => exact ⟨j + 1, hlt, int_succ j, by congr 1; omega, HST.out.1, grown_trans HG.out HST.out.2⟩
        case measure => simp [intOf]; omega
      · obtain rfl : j = xs.length := by omega
        rw [marked_all] at hown
        go_wp2_with fail
        go_ret
        exact ⟨rfl, hgr, by rw [OwnI, hlen]; exact hown⟩
theorem heldIntS_any (n : Nat) (v : Value) (k : Int) (w : World) (h : IntsAt w v (marks k n)) (h0 : 0 ≤ k) (h1 : k ≤ 1099511627776) (hs : n ≤ 1099511627776) :
    Calls Try.prog 53 #[v, .int .i64 k] w fun e w' => e = .returned (.int .i64 (k + n)) ∧ ∃ x, w' = ext w x := by
  obtain ⟨a, b, o, cap, rfl, hc1, hc2, hc3, hcell⟩ := h.opn
  have hlen : (marks k n).length = n := marks_len k _
  rw [hlen] at hc1 hc2 hcell h ⊢
  have HC := Lib.hid hcell
  clear hlen hcell
  go_enter Try.func53, Try.ntmps53
  go_wp2_with fail
  go_loopw [1, 5] (fun kk i wr => ∃ j : Nat, j ≤ n ∧ i = .int .i64 j ∧ kk = .int .i64 (k + j) ∧ ∃ x, wr = ext w x) (fun _ i _ => n - (intOf i).toNat)
  case atStart => exact ⟨0, Nat.zero_le _, rfl, by simp, (by repeat (first | exact ext_refl _ | (with_reducible assumption) | refine ext_ext' ?_ _ | refine ext_alloc' ?_ _ | refine ext_drew' ?_))⟩
  case round =>
    obtain ⟨j, hj, rfl, rfl, x, rfl⟩ := hrel
    by_cases hlt : j < n
    · obtain ⟨hb, hi, hck⟩ := HC.out j hlt
      rw [marks_nth k n j hlt] at hck
      have hq : (k + (j : Int) != k + j) = false := by simp
      go_wp2_with fail
      go_roundw
      case rel => exact ⟨j + 1, hlt, int_succ j, by congr 1; omega, (by repeat (first | exact ext_refl _ | (with_reducible assumption) | refine ext_ext' ?_ _ | refine ext_alloc' ?_ _ | refine ext_drew' ?_))⟩
      case measure => simp [intOf]; omega
    · obtain rfl : j = n := by omega
      go_wp2_with fail
      go_ret
      exact ⟨rfl, (by repeat (first | exact ext_refl _ | (with_reducible assumption) | refine ext_ext' ?_ _ | refine ext_alloc' ?_ _ | refine ext_drew' ?_))⟩
abbrev rowI (v : Value) (xs : List Int) : Row := ⟨v, 3, 1, xs.length, xs.map iv⟩
theorem elemInt : Elem Try.prog 22 3 1 8 (.int .i64 0) := ⟨Try.underlying22, infoInt3, rfl, by decide⟩
theorem Held.ints {W0 w : World} {L : List Row} (H : Held W0 w L) {v : Value} {xs : List Int} (h : rowI v xs ∈ L) : IntsAt w v xs := H.sl h
theorem Held.ints0 {W0 w : World} {L : List Row} {v : Value} {xs : List Int} (H : Held W0 w (rowI v xs :: L)) : IntsAt w v xs := H.sl List.mem_cons_self
theorem Held.oldI {W0 w : World} {L : List Row} (H : Held W0 w L) {v : Value} {xs : List Int} (h : IntsAt W0 v xs) : IntsAt w v xs := h.mono H.bel
theorem markIntS_held {W0 : World} {L : List Row} (xs : List Int) (v : Value) (k : Int) (w : World) (H : Held W0 w (rowI v xs :: L)) (h0 : 0 ≤ k) (h1 : k ≤ 1099511627776) (hs : xs.length ≤ 1099511627776) :
    Calls Try.prog 52 #[v, .int .i64 k] w fun e w' => e = .returned (.int .i64 (k + xs.length)) ∧ Held W0 w' (rowI v (marks k xs.length) :: L) :=
  (markIntS_any xs v k W0.heap.size w (H.own _ List.mem_cons_self) h0 h1 hs).mono fun e w' ⟨he, hg, ho⟩ => ⟨he, by
    have hl := marks_len k xs.length
    have := H.write (cs := (marks k xs.length).map iv) hg (by rw [OwnI, hl] at ho; exact ho)
    rw [rowI, hl]; exact this⟩
end
section
open Go.ChangeShapes Go.WideShapes Go.ChangeAt Go.RowKit
theorem Held.nilI {W0 w : World} {L : List Row} (H : Held W0 w L) : Held W0 w (⟨.slice none 0 0, 3, 1, 0, []⟩ :: L) := ⟨H.bel, (fun r hr => by
  rcases List.mem_cons.1 hr with rfl | hr
  · exact World.ownsRow_nil _ _ _ _
  · exact H.own r hr), List.Pairwise.cons (fun r hr g hg => by simp [Value.ownBlock] at hg) H.apart⟩
theorem one_lit (x : Int) : ∀ u ∈ [Value.int .i64 x], u.oneCell' = true := by intro u hu; simp at hu; subst hu; rfl
theorem Held.snoc {W0 w : World} {L : List Row} {v : Value} {xs : List Int} {x : Int} (H : Held W0 w (⟨v, 3, 1, xs.length + 1, xs.map iv ++ [.int .i64 x]⟩ :: L)) : Held W0 w (rowI v (xs ++ [x]) :: L) := by
  have e : (xs ++ [x]).map iv = xs.map iv ++ [.int .i64 x] := by simp [iv]
  rw [rowI, e, List.length_append]; exact H
theorem Held.first {W0 w : World} {L : List Row} {r : Row} (H : Held W0 w (r :: L)) : Held W0 w [r] := ⟨H.bel, fun q hq => by simp at hq; subst hq; exact H.own _ List.mem_cons_self, by simp⟩
theorem Held.rowV {W0 w : World} {L : List Row} {v : Value} {xs : List Int} (H : Held W0 w (rowI v xs :: L)) : ∃ a c, v = .slice a xs.length c := own_slice (H.own _ List.mem_cons_self)
theorem Held.base {W0 W1 w : World} {L : List Row} (hb : Below W0.heap.size W0 W1) (H : Held W1 w L) : Held W0 w L :=
  ⟨hb.trans (H.bel.mono hb.size), fun r hr => own_base (H.own r hr) hb.size, H.apart⟩
theorem Held.unbox {w wr : World} {o : Obj} {L : List Row} (H : Held (w.alloc o) wr L) : Held w wr L := H.base ((Below.refl _ _).alloc (Nat.le_refl _) _)
theorem Held.box2 {w wr : World} {u v : Value} {t : TypeId} {L : List Row} (H : Held (w.alloc (.cells #[u, v] t)) wr L) : wr.cell? ⟨w.heap.size, 0, none⟩ = some u ∧ wr.cell? ⟨w.heap.size, 1, none⟩ = some v := by
  have h := fun i => H.bel.cell (p := ⟨w.heap.size, i, none⟩) (by rw [World.size_alloc]; simp)
  exact ⟨by rw [h, World.cell?_alloc_at _ _ _ _ rfl]; rfl, by rw [h, World.cell?_alloc_at _ _ _ _ rfl]; rfl⟩
theorem Held.boxOld {w wr : World} {o : Obj} {L : List Row} (H : Held (w.alloc o) wr L) : Old wr w.heap.size := ⟨by have := H.bel.size; rw [World.size_alloc] at this; omega⟩
def IntsPost (w : World) (xs : List Int) (e : Ending) (w' : World) : Prop := ∃ v', e = .returned v' ∧ Held w w' [rowI v' xs]
theorem IntsPost.nil {w w' : World} {xs : List Int} (h : xs = []) (hx : ∃ x, w' = ext w x) : IntsPost w xs (.returned (.slice none 0 0)) w' := by
  subst h; exact ⟨_, rfl, (((Held.start w).to hx).nilI)⟩
theorem IntsPost.empty {w w' : World} {xs : List Int} {v : Value} {L : List Row} (h : xs = []) (H : Held w w' (⟨v, 3, 1, 0, []⟩ :: L)) : IntsPost w xs (.returned v) w' := by
  subst h; exact ⟨_, rfl, H.first⟩
theorem IntsPost.got {w w' : World} {xs ys : List Int} {v : Value} {L : List Row} (h : xs = ys) (H : Held w w' (rowI v ys :: L)) : IntsPost w xs (.returned v) w' := by
  subst h; exact ⟨_, rfl, H.first⟩
theorem takeI_held {W0 w w' : World} {L : List Row} {v : Value} {xs : List Int} (H : Held W0 w L) (hx : ∃ x, w' = ext w x) (K : OwnI w' w.heap.size v xs) : Held W0 w' (rowI v xs :: L) := H.push (bel_of_ext hx) K
theorem Held.take1 {W0 w w' : World} {L : List Row} {v : Value} {xs : List Int} (H : Held W0 w L) (K : Held w w' [rowI v xs]) : Held W0 w' (rowI v xs :: L) := H.join K
theorem wpList_make_any {P : Program} {W0 : World} {w : World} {L : List Row} {ops : Array Oper} {rest : List Oper} {o : Oper} {a : Act} {Q : Exit → Act → World → Prop}
    (hg : o.guard = none) (l c : Operand) (t : TypeId) (hop : o.op = Op.makeSlice t l c) {e size bytes : Nat} {z : Value} (E : Elem P t e size bytes z) (H : Held W0 w L)
    (kl kc : IntKind) (N C : Int) (n : Nat) (hl : a.eval l = .int kl N) (hc : a.eval c = .int kc C) (hL : N = (n : Int)) (hC : C = (n : Int)) (b2 : bytes * n ≤ 281474976710656) (b3 : n ≤ maxLen)
    (hK : ∀ g w', Held W0 w' (⟨.slice (some ⟨g, 0, none⟩) n n, e, size, n, (madeCells z.cells (n * size)).toList⟩ :: L) → wpList P ops Q rest (a.put o.dst (.slice (some ⟨g, 0, none⟩) n n)) w') :
    wpList P ops Q (o :: rest) a w := wpList_make_held hg l c t hop E H kl kc N C n hl hc hL hC b2 b3 (hK _)
theorem Held.oldRow {W0 w : World} {L : List Row} {g n cap : Nat} {xs : List Int} (H : Held W0 w (rowI (.slice (some ⟨g, 0, none⟩) n cap) xs :: L)) : Old w g := ⟨((H.own _ List.mem_cons_self).lt g rfl).2⟩
/-! ### a drawn region whose first operations only read what was there when the call began, and that then appends -/
theorem wp_region_heldB {P : Program} {W0 : World} {id : Nat} {Q : Exit → Act → World → Prop} {a : Act} {w : World} {ops : Array Oper} (_ : Below W0.heap.size W0 w) (hm : P.follows .mixedOrders = true)
    (h : wpAnyH P .any ops Q (fun w' => Below W0.heap.size W0 w') ops.size (Array.replicate ops.size false) a w.drew) : (Code.region id ops true).wp P Q a w :=
  wp_region_held hm h
theorem takeB {P : Program} {ops : Array Oper} {Q : Exit → Act → World → Prop} {W0 : World} {i : Nat} {oi : Oper} {v : Value} {fuel : Nat} {listed : Array Bool} {a : Act} {w : World} (hi : ops[i]? = some oi)
    (hs : Region.noSelect ops = true) (hf : Region.free .any ops listed i = true) (hr : (Region.ready .any ops listed).contains i = true)
    (hQ : ∀ c a w, Q (.panic c) (a.put oi.dst v) w → Q (.panic c) a w) (hw : Region.wanted oi (yielded ops a.tmps) = true) (hy : ∀ w', Below W0.heap.size W0 w' → (execOp a.eval oi).run P w' = .ok (.value v) w') (hS : Below W0.heap.size W0 w)
    (h : wpAnyH P .any ops Q (fun w' => Below W0.heap.size W0 w') fuel (listed.setIfInBounds i true) (a.put oi.dst v) w) : wpAnyH P .any ops Q (fun w' => Below W0.heap.size W0 w') (fuel + 1) listed a w :=
  wpAnyH_take hi hs hf hr hQ (.inl ⟨hw, hy⟩) hS h
theorem below_box2 {w wr : World} {u v : Value} {t : TypeId} (hb : Below (w.alloc (.cells #[u, v] t)).heap.size (w.alloc (.cells #[u, v] t)) wr) : wr.cell? ⟨w.heap.size, 0, none⟩ = some u ∧ wr.cell? ⟨w.heap.size, 1, none⟩ = some v :=
  Held.box2 (L := []) ⟨hb, (fun r h => by cases h), List.Pairwise.nil⟩
theorem opwp_append_held {P : Program} {W0 : World} {w : World} {L : List Row} {o : Oper} {a : Act} {K : Act → World → Prop} {Q : Exit → Act → World → Prop} (s x : Operand) (t : TypeId)
    (ho : o.op = .call { callee := .builtin .append, args := #[s, x], argTypes := #[t, t] })
    {e size bytes : Nat} {z : Value} (E : Elem P t e size bytes z) {v u : Value} {n m : Nat} {xs news : List Value} (H : Held W0 w (⟨v, e, size, n, xs⟩ :: L)) (hs : a.eval s = v) (hx : a.eval x = u) (hsl : Sl w size u m news) (h1 : ∀ u ∈ news, u.oneCell' = true)
    (h63 : n + m ≤ maxLen) (hbytes : (n + m) * bytes ≤ 140737488355328)
    (h : ∀ v' w', Held W0 w' (⟨v', e, size, n + m, xs ++ news⟩ :: L) → K (a.put o.dst v') w') : Oper.wp P o a w K Q := by
  obtain ⟨v', w', hr, h2, h3, h4⟩ := run_append_sl (P := P) w W0.heap.size t o.type e z size bytes E v u n m xs news (H.own _ List.mem_cons_self) hsl h1 h63 hbytes H.le
  unfold Oper.wp execOp
  simp only [ho, resolve, invoke, builtin, Sem.run_bind, Sem.run_pure, Result.andThen_ok, List.map_toArray, List.map_cons, List.map_nil, hs, hx, hr]
  exact h v' w' (H.append h3 h2 h4)
theorem Sl_newAt (w : World) (u : Value) (t : TypeId) (b : Nat) (h : w.heap.size = b) : Sl (w.alloc (.cells #[u] t)) 1 (.slice (some ⟨b, 0, none⟩) 1 1) 1 [u] := by subst h; exact Sl_new1 w u t
theorem opwp_make_any {P : Program} {W0 : World} {w : World} {L : List Row} {o : Oper} {a : Act} {K : Act → World → Prop} {Q : Exit → Act → World → Prop}
    (l c : Operand) (t : TypeId) (hop : o.op = Op.makeSlice t l c) {e size bytes : Nat} {z : Value} (E : Elem P t e size bytes z) (H : Held W0 w L)
    (kl kc : IntKind) (N C : Int) (n : Nat) (hl : a.eval l = .int kl N) (hc : a.eval c = .int kc C) (hL : N = (n : Int)) (hC : C = (n : Int)) (b2 : bytes * n ≤ 281474976710656) (b3 : n ≤ maxLen)
    (hK : ∀ g w', Held W0 w' (⟨.slice (some ⟨g, 0, none⟩) n n, e, size, n, (madeCells z.cells (n * size)).toList⟩ :: L) → w.grownBy w' none → K (a.put o.dst (.slice (some ⟨g, 0, none⟩) n n)) w') : Oper.wp P o a w K Q := by
  obtain ⟨i, hi, hz, hsize, hby⟩ := info_parts E.info
  obtain ⟨w', hrun, r1, r2⟩ := run_make_full (P := P) w w.heap.size t e i z size E.ut hi hz hsize kl kc n (by rw [hby]; exact b2) b3 (Nat.le_refl _)
  subst hL
  subst hC
  unfold Oper.wp
  simp [execOp, hop, hl, hc, hrun, Result.andThen]
  exact hK _ _ (H.push ((Below.refl _ _).grown r2 (Nat.le_refl _) (fun k hk => by cases hk)) r1) r2
theorem wp_region_heldS {P : Program} {S : World → Prop} {id : Nat} {Q : Exit → Act → World → Prop} {a : Act} {w : World} {ops : Array Oper} (hm : P.follows .mixedOrders = true)
    (h : wpAnyH P .any ops Q S ops.size (Array.replicate ops.size false) a w.drew) : (Code.region id ops true).wp P Q a w := wp_region_held hm h
theorem takeS {P : Program} {ops : Array Oper} {Q : Exit → Act → World → Prop} {S : World → Prop} {i : Nat} {oi : Oper} {v : Value} {fuel : Nat} {listed : Array Bool} {a : Act} {w : World} (hi : ops[i]? = some oi)
    (hs : Region.noSelect ops = true) (hf : Region.free .any ops listed i = true) (hr : (Region.ready .any ops listed).contains i = true)
    (hQ : ∀ c a w, Q (.panic c) (a.put oi.dst v) w → Q (.panic c) a w) (hw : Region.wanted oi (yielded ops a.tmps) = true) (hy : ∀ w', S w' → (execOp a.eval oi).run P w' = .ok (.value v) w') (hS : S w)
    (h : wpAnyH P .any ops Q S fuel (listed.setIfInBounds i true) (a.put oi.dst v) w) : wpAnyH P .any ops Q S (fuel + 1) listed a w :=
  wpAnyH_take hi hs hf hr hQ (.inl ⟨hw, hy⟩) hS h
end
section
open Go.ChangeShapes Go.WideShapes Go.ChangeAt Go.RowKit
def btw (n lo hi : Int) : Bool := decide (lo ≤ n) && decide (n ≤ hi)
theorem btw_iff {n lo hi : Int} : btw n lo hi = true ↔ lo ≤ n ∧ n ≤ hi := by simp [btw]
theorem btw_not {n lo hi : Int} : btw n lo hi = false ↔ ¬ (lo ≤ n ∧ n ≤ hi) := by rw [← btw_iff]; simp
theorem between_any (n lo hi : Int) (w : World) : Calls Try.prog 65 #[.int .i64 n, .int .i64 lo, .int .i64 hi] w fun e w' => e = .returned (.bool (btw n lo hi)) ∧ ∃ x, w' = ext w x := by
  by_cases h1 : lo ≤ n <;> by_cases h2 : n ≤ hi
  all_goals
    go_enter Try.func65, Try.ntmps65
    go_wp2
    go_ret
    exact ⟨by simp [h1, h2, btw], ext_refl _⟩
theorem between_b (n lo hi : Int) (b : Bool) (h : btw n lo hi = b) (w : World) : Calls Try.prog 65 #[.int .i64 n, .int .i64 lo, .int .i64 hi] w fun e w' => e = .returned (.bool b) ∧ ∃ x, w' = ext w x := h ▸ between_any n lo hi w
theorem l1In_any (n lo hi : Int) (w : World) : Calls Try.prog 67 #[.int .i64 n, .int .i64 lo, .int .i64 hi] w fun e w' => e = .returned (.bool (btw n lo hi)) ∧ ∃ x, w' = ext w x := by
  by_cases h1 : lo ≤ n <;> by_cases h2 : n ≤ hi
  all_goals
    go_enter Try.func67, Try.ntmps67
    go_wp2
    go_ret
    exact ⟨by simp [h1, h2, btw], ext_refl _⟩
theorem l1In_b (n lo hi : Int) (b : Bool) (h : btw n lo hi = b) (w : World) : Calls Try.prog 67 #[.int .i64 n, .int .i64 lo, .int .i64 hi] w fun e w' => e = .returned (.bool b) ∧ ∃ x, w' = ext w x := h ▸ l1In_any n lo hi w
end
section
open Go.ChangeShapes Go.WideShapes Go.ChangeAt Go.RowKit
def cv (c : Int × Int) : List Value := [iv c.1, iv c.2]
def cx (cs : List (Int × Int)) (k : Nat) : Int := (cs.getD k (0, 0)).1
def cy (cs : List (Int × Int)) (k : Nat) : Int := (cs.getD k (0, 0)).2
/-- cs read from a slice of cells -/
def CellsAt (w : World) (v : Value) (cs : List (Int × Int)) : Prop := Sl w 2 v cs.length (cs.flatMap cv)
theorem CellsAt.mono {w w' : World} {v : Value} {cs : List (Int × Int)} (h : CellsAt w v cs) (hb : Below w.heap.size w w') : CellsAt w' v cs := Sl.mono h hb
theorem flat_len (cs : List (Int × Int)) : (cs.flatMap cv).length = cs.length * 2 := by
  induction cs with
  | nil => rfl
  | cons c cs ih => simp [cv] at ih ⊢; omega
theorem flat_at (cs : List (Int × Int)) (k : Nat) (h : k < cs.length) : (cs.flatMap cv)[k * 2 + 0]? = some (.int .i64 (cx cs k)) ∧ (cs.flatMap cv)[k * 2 + 1]? = some (.int .i64 (cy cs k)) := by
  induction cs generalizing k with
  | nil => simp at h
  | cons c cs ih =>
    cases k with
    | zero => simp [cv, iv, cx, cy]
    | succ k =>
      have := ih k (by simpa using h)
      simp only [List.flatMap_cons, cv, List.cons_append, List.nil_append]
      rw [show (k + 1) * 2 + 0 = (k * 2 + 0) + 1 + 1 by omega, show (k + 1) * 2 + 1 = (k * 2 + 1) + 1 + 1 by omega]
      simpa [cx, cy] using this
theorem infoCell : (Try.prog.info? 64).map (fun i => i.size) = some 2 := by kernel_rfl
theorem infoCell3 : (Try.prog.info? 64).map (fun i => (i.zero, i.size, i.bytes)) = some (some (.agg #[.int .i64 0, .int .i64 0]), 2, 16) := by kernel_rfl
theorem CellsAt.opn {w : World} {v : Value} {cs : List (Int × Int)} (h : CellsAt w v cs) :
    ∃ a b o cap, v = .slice a cs.length cap ∧ cs.length ≤ cap ∧ cs.length ≤ 9223372036854775807 ∧ cap ≤ 9223372036854775807 ∧ ∀ k, k < cs.length → Old w b ∧ (∀ w', (Instr.indexAt 39 (.slice a cs.length cap) (.int .i64 k)).run Try.prog w' = .ok (.pointer (some ⟨b, o + k * 2, none⟩)) w') ∧
      w.cell? ⟨b, o + k * 2, none⟩ = some (.int .i64 (cx cs k)) ∧ w.cell? ⟨b, o + k * 2 + 1, none⟩ = some (.int .i64 (cy cs k)) := by
  obtain ⟨a, b, o, cap, rfl, h1, h2, h3, h4⟩ := Sl.idx h Try.underlying39 infoCell
  refine ⟨a, b, o, cap, rfl, h1, h2, h3, fun k hk => ?_⟩
  obtain ⟨g1, g2, g3⟩ := h4 k hk
  refine ⟨g1, g2, ?_, ?_⟩
  · have := g3 0 (by omega)
    rw [Nat.add_zero] at this
    rw [this]; exact (flat_at cs k hk).1
  · rw [g3 1 (by omega)]; exact (flat_at cs k hk).2
def bef (x y x' y' : Int) : Bool := decide (y < y') || (y == y' && decide (x < x'))
def onB (x y : Int) : Bool := btw x 0 7 && btw y 0 7
theorem l2Before_any (x y x' y' : Int) (w : World) : Calls Try.prog 90 #[.agg #[.int .i64 x, .int .i64 y], .agg #[.int .i64 x', .int .i64 y']] w fun e w' => e = .returned (.bool (bef x y x' y')) ∧ ∃ x, w' = ext w x := by
  have HF := Lib.hid (show bef x y x' y' = (decide (y < y') || (y == y' && decide (x < x'))) from rfl)
  by_cases h1 : y < y'
  · go_enter Try.func90, Try.ntmps90
    go_wp2_with fail
    go_ret
    exact ⟨ret_bool (by rw [HF.out]; simp [h1]), (by repeat (first | exact ext_refl _ | (with_reducible assumption) | refine ext_ext' ?_ _ | refine ext_alloc' ?_ _ | refine ext_drew' ?_))⟩
  by_cases h2 : y = y'
  · by_cases h3 : x < x'
    all_goals
      have h2' : (y == y') = true := beq_iff_eq.2 h2
      have H2 := Lib.hid h2
      clear h2
      go_enter Try.func90, Try.ntmps90
      go_wp2_with fail
      go_ret
      exact ⟨ret_bool (by rw [HF.out]; simp [H2.out, h3]), (by repeat (first | exact ext_refl _ | (with_reducible assumption) | refine ext_ext' ?_ _ | refine ext_alloc' ?_ _ | refine ext_drew' ?_))⟩
  · have h2' : (y == y') = false := beq_eq_false_iff_ne.2 h2
    have H2 := Lib.hid h2
    clear h2
    go_enter Try.func90, Try.ntmps90
    go_wp2_with fail
    go_ret
    exact ⟨ret_bool (by rw [HF.out]; simp [H2.out, h1]), (by repeat (first | exact ext_refl _ | (with_reducible assumption) | refine ext_ext' ?_ _ | refine ext_alloc' ?_ _ | refine ext_drew' ?_))⟩
end
section
open Go.ChangeShapes Go.WideShapes Go.ChangeAt Go.RowKit
abbrev OwnC (w : World) (B : Nat) (v : Value) (cs : List (Int × Int)) : Prop := w.ownsRow B 64 2 v cs.length (cs.flatMap cv)
theorem CellsAt_own {w : World} {B : Nat} {v : Value} {cs : List (Int × Int)} (h : OwnC w B v cs) : CellsAt w v cs := Sl_own h
theorem own_ext {w : World} {B e sz : Nat} {v : Value} {n : Nat} {xs : List Value} (h : w.ownsRow B e sz v n xs) (x : Ext) : (ext w x).ownsRow B e sz v n xs := by
  refine ⟨h.1, ?_⟩
  rcases h.2 with h2 | ⟨g, cap, cur, h1, h2, h3, h4⟩
  · exact .inl h2
  · exact .inr ⟨g, cap, cur, h1, h2, by rw [heap_ext w x (Array.getElem?_eq_some_iff.1 h3).1]; exact h3, h4⟩
def partC (cs : List (Int × Int)) (k : Nat) : List Value := (cs.take k).flatMap cv ++ List.replicate ((cs.length - k) * 2) (iv 0)
theorem partC_zero (cs : List (Int × Int)) : partC cs 0 = List.replicate (cs.length * 2) (iv 0) := by simp [partC]
theorem partC_all (cs : List (Int × Int)) : partC cs cs.length = cs.flatMap cv := by simp [partC]
theorem partC_step (cs : List (Int × Int)) (k : Nat) (h : k < cs.length) : ((partC cs k).set (k * 2) (.int .i64 (cx cs k))).set (k * 2 + 1) (.int .i64 (cy cs k)) = partC cs (k + 1) := by
  have e1 : ((cs.take k).flatMap cv).length = k * 2 := by rw [flat_len]; simp; omega
  have e2 : cs.take (k + 1) = cs.take k ++ [(cx cs k, cy cs k)] := by
    have e : (cx cs k, cy cs k) = cs[k] := by simp [cx, cy, List.getD, h]
    rw [e, List.take_succ_eq_append_getElem h]
  have e3 : List.replicate ((cs.length - k) * 2) (iv 0) = iv 0 :: iv 0 :: List.replicate ((cs.length - (k + 1)) * 2) (iv 0) := by
    rw [show (cs.length - k) * 2 = (cs.length - (k + 1)) * 2 + 1 + 1 by omega]; rfl
  rw [partC, partC, e2, e3, List.flatMap_append]
  rw [List.set_append_right _ _ (by omega), e1, Nat.sub_self, List.set_append_right _ _ (by omega), e1, show k * 2 + 1 - k * 2 = 1 by omega]
  simp [cv, iv]
theorem partC_cell (cs : List (Int × Int)) (k : Nat) (h : k < cs.length) : ∃ u u', (partC cs k)[k * 2]? = some u ∧ (partC cs k)[k * 2 + 1]? = some u' := by
  have e1 : ((cs.take k).flatMap cv).length = k * 2 := by rw [flat_len]; simp; omega
  have e3 : List.replicate ((cs.length - k) * 2) (iv 0) = iv 0 :: iv 0 :: List.replicate ((cs.length - (k + 1)) * 2) (iv 0) := by
    rw [show (cs.length - k) * 2 = (cs.length - (k + 1)) * 2 + 1 + 1 by omega]; rfl
  refine ⟨iv 0, iv 0, ?_, ?_⟩
  · rw [partC, e3, List.getElem?_append_right (by omega), e1]; simp
  · rw [partC, e3, List.getElem?_append_right (by omega), e1, show k * 2 + 1 - k * 2 = 1 by omega]; simp
theorem madeTwo (z : Value) (n : Nat) : (madeCells #[z, z] n).toList = List.replicate n z := by
  apply List.ext_getElem?
  intro i
  by_cases h : i < n
  · have : i % 2 = 0 ∨ i % 2 = 1 := by omega
    rcases this with e | e <;> simp [madeCells, h, e]
  · simp [madeCells, h]
def eqc (x y x' y' : Int) : Bool := (x == x') && (y == y')
def eqCells (a b : List (Int × Int)) : Bool := decide (a.length = b.length) && allTo (fun k => eqc (cx a k) (cy a k) (cx b k) (cy b k)) a.length
theorem eqCells_self (a : List (Int × Int)) : eqCells a a = true := by simp [eqCells, allTo_true, eqc]
theorem eqCells_eq {a b : List (Int × Int)} (h : eqCells a b = true) : a = b := by
  simp [eqCells, allTo_true, cx, cy, eqc] at h
  apply List.ext_getElem h.1
  intro i h1 h2
  have := h.2 i h1
  simp [h1, h2] at this
  exact Prod.ext this.1 this.2
end
section
open Go.ChangeShapes Go.WideShapes Go.ChangeAt Go.RowKit
abbrev rowC (v : Value) (cs : List (Int × Int)) : Row := ⟨v, 64, 2, cs.length, cs.flatMap cv⟩
theorem elemCell : Elem Try.prog 39 64 2 16 (.agg #[.int .i64 0, .int .i64 0]) := ⟨Try.underlying39, infoCell3, rfl, by decide⟩
theorem Sl_cell (w : World) (x y : Int) (t : TypeId) : Sl (w.alloc (.cells #[.int .i64 x, .int .i64 y] t)) 2 (.slice (some ⟨w.heap.size, 0, none⟩) 1 1) 1 [.int .i64 x, .int .i64 y] :=
  Sl_new w #[.int .i64 x, .int .i64 y] t 2 1 rfl (by simp [maxLen]) (by omega)
theorem one_cell (x y : Int) : ∀ u ∈ [Value.int .i64 x, Value.int .i64 y], u.oneCell' = true := by
  intro u hu
  simp at hu
  rcases hu with rfl | rfl <;> rfl
theorem Held.cells {W0 w : World} {L : List Row} (H : Held W0 w L) {v : Value} {cs : List (Int × Int)} (h : rowC v cs ∈ L) : CellsAt w v cs := H.sl h
theorem Held.cells0 {W0 w : World} {L : List Row} {v : Value} {cs : List (Int × Int)} (H : Held W0 w (rowC v cs :: L)) : CellsAt w v cs := H.sl List.mem_cons_self
theorem Held.oldC {W0 w : World} {L : List Row} (H : Held W0 w L) {v : Value} {cs : List (Int × Int)} (h : CellsAt W0 v cs) : CellsAt w v cs := h.mono H.bel
theorem Held.rowCV {W0 w : World} {L : List Row} {v : Value} {cs : List (Int × Int)} (H : Held W0 w (rowC v cs :: L)) : ∃ a c, v = .slice a cs.length c := own_slice (H.own _ List.mem_cons_self)
theorem Held.nilC {W0 w : World} {L : List Row} (H : Held W0 w L) : Held W0 w (rowC (.slice none 0 0) [] :: L) := ⟨H.bel, (fun r hr => by
    rcases List.mem_cons.1 hr with rfl | hr
    · exact World.ownsRow_nil _ _ _ _
    · exact H.own r hr), List.Pairwise.cons (fun r hr g hg => by cases hg) H.apart⟩
theorem Held.snocC {W0 w : World} {L : List Row} {v : Value} {cs : List (Int × Int)} {x y : Int} (H : Held W0 w (⟨v, 64, 2, cs.length + 1, cs.flatMap cv ++ [.int .i64 x, .int .i64 y]⟩ :: L)) : Held W0 w (rowC v (cs ++ [(x, y)]) :: L) := by
  rw [rowC, List.flatMap_append, List.length_append]
  exact H
/-- a fresh slice of cells -/
def CellsPost (w : World) (cs : List (Int × Int)) (e : Ending) (w' : World) : Prop := ∃ v', e = .returned v' ∧ Held w w' [rowC v' cs]
theorem CellsPost.nil {w w' : World} {cs : List (Int × Int)} (h : cs = []) (hx : ∃ x, w' = ext w x) : CellsPost w cs (.returned (.slice none 0 0)) w' := by
  subst h; exact ⟨_, rfl, ((Held.start w).to hx).nilC⟩
theorem CellsPost.empty {w w' : World} {cs : List (Int × Int)} {v : Value} {L : List Row} (h : cs = []) (H : Held w w' (⟨v, 64, 2, 0, []⟩ :: L)) : CellsPost w cs (.returned v) w' := by
  subst h; exact ⟨_, rfl, H.first⟩
theorem CellsPost.got {w w' : World} {cs ds : List (Int × Int)} {v : Value} {L : List Row} (h : cs = ds) (H : Held w w' (rowC v ds :: L)) : CellsPost w cs (.returned v) w' := by
  subst h; exact ⟨_, rfl, H.first⟩
end
section
open Go.ChangeShapes Go.WideShapes Go.ChangeAt Go.RowKit
/-- a box that holds one value, as a row of the call's own -/
abbrev boxR (b : Nat) (t : Nat) (u : Value) : Row := ⟨.slice (some ⟨b, 0, none⟩) 1 1, t, 1, 1, [u]⟩
theorem Held.newBox {W0 w : World} {L : List Row} (H : Held W0 w L) (t : Nat) (u : Value) : Held W0 (w.alloc (.cells #[u] t)) (boxR w.heap.size t u :: L) :=
  H.push ((Below.refl _ _).alloc (Nat.le_refl _) _) ⟨rfl, .inr ⟨w.heap.size, 1, #[u], rfl, Nat.le_refl _, heap_alloc_new w _, Nat.le_refl _, by simp [maxLen], rfl, rfl⟩⟩
theorem Held.box {W0 w : World} {L : List Row} {b t : Nat} {u : Value} (H : Held W0 w L) (h : boxR b t u ∈ L) : w.cell? ⟨b, 0, none⟩ = some u ∧ w.frozen? ⟨b, 0, none⟩ = false := by
  have ho := H.own _ h
  exact ⟨by rw [ho.cellAt 0 (by show 0 < 1 * 1; omega)]; rfl, ho.frozenAt 0⟩
theorem Held.boxO {W0 w : World} {L : List Row} {b t : Nat} {u : Value} (H : Held W0 w L) (h : boxR b t u ∈ L) : Old w b := ⟨((H.own _ h).lt b rfl).2⟩
theorem Held.setBox {W0 w : World} {L : List Row} {b t : Nat} {u : Value} (H : Held W0 w (boxR b t u :: L)) (u' : Value) : Held W0 (w.setCell ⟨b, 0, none⟩ u') (boxR b t u' :: L) := by
  have hst := (H.own _ List.mem_cons_self).stored 0 u'
  exact H.write hst.2 hst.1
end
section
open Go.ChangeShapes Go.WideShapes Go.ChangeAt Go.RowKit
theorem flat_set (cs : List (Int × Int)) (i : Nat) (x y : Int) : ((cs.flatMap cv).set (i * 2) (iv x)).set (i * 2 + 1) (iv y) = (cs.set i (x, y)).flatMap cv := by
  induction cs generalizing i with
  | nil => simp
  | cons c cs ih =>
    cases i with
    | zero => simp [cv]
    | succ i =>
      rw [show (i + 1) * 2 = i * 2 + 1 + 1 by omega]
      simp only [List.flatMap_cons, cv, List.cons_append, List.nil_append, List.set_cons_succ]
      rw [ih]
theorem Held.putC {W0 w : World} {L : List Row} {g n cap : Nat} {cs : List (Int × Int)} (H : Held W0 w (rowC (.slice (some ⟨g, 0, none⟩) n cap) cs :: L)) (i : Nat) (x y : Int) :
    Held W0 ((w.setCell ⟨g, i * 2, none⟩ (.int .i64 x)).setCell ⟨g, i * 2 + 1, none⟩ (.int .i64 y)) (rowC (.slice (some ⟨g, 0, none⟩) n cap) (cs.set i (x, y)) :: L) := by
  have hn : cs.length = n := by
    rcases (H.own _ List.mem_cons_self).2 with ⟨hv, _⟩ | ⟨g', cap', cur, hv, _⟩
    · cases hv
    · simp only [Value.slice.injEq] at hv; exact hv.2.1.symm
  subst hn
  have hown := H.own _ List.mem_cons_self
  simp only at hown
  have hst := hown.stored (i * 2) (.int .i64 x)
  have hst2 := hst.1.stored (i * 2 + 1) (.int .i64 y)
  have H2 := (H.write hst.2 hst.1).write hst2.2 hst2.1
  have e : ((cs.flatMap cv).set (i * 2) (Value.int .i64 x)).set (i * 2 + 1) (.int .i64 y) = (cs.set i (x, y)).flatMap cv := flat_set cs i x y
  rw [e] at H2
  rw [rowC, List.length_set]
  exact H2
theorem Held.cellC {W0 w : World} {L : List Row} {g n cap : Nat} {cs : List (Int × Int)} (H : Held W0 w (rowC (.slice (some ⟨g, 0, none⟩) n cap) cs :: L)) {i : Nat} (hi : i < cs.length) :
    w.cell? ⟨g, i * 2, none⟩ = some (.int .i64 (cx cs i)) ∧ w.cell? ⟨g, i * 2 + 1, none⟩ = some (.int .i64 (cy cs i)) ∧ ∀ k, w.frozen? ⟨g, k, none⟩ = false := by
  have hn : cs.length = n := by
    rcases (H.own _ List.mem_cons_self).2 with ⟨hv, _⟩ | ⟨g', cap', cur, hv, _⟩
    · cases hv
    · simp only [Value.slice.injEq] at hv; exact hv.2.1.symm
  subst hn
  have hown := H.own _ List.mem_cons_self
  simp only at hown
  have hf := flat_at cs i hi
  have hl := flat_len cs
  refine ⟨?_, ?_, fun k => hown.frozenAt k⟩
  · rw [hown.cellAt (i * 2) (by omega)]; exact hf.1
  · rw [hown.cellAt (i * 2 + 1) (by omega)]; exact hf.2
end
section
open Go.ChangeShapes Go.WideShapes Go.ChangeAt Go.RowKit
structure Strict {α : Type} (lt : α → α → Bool) : Prop where
  irr : ∀ a, lt a a = false
  trans : ∀ a b c, lt a b = true → lt b c = true → lt a c = true
  tot : ∀ a b, lt a b = false → lt b a = false → a = b
theorem Strict.asym {α : Type} {lt : α → α → Bool} (S : Strict lt) {a b : α} (h : lt a b = true) : lt b a = false := by
  cases h2 : lt b a
  · rfl
  · have := S.trans _ _ _ h h2
    rw [S.irr] at this; cases this
def Asc {α : Type} (lt : α → α → Bool) (l : List α) : Prop := l.Pairwise fun a b => lt a b = true
def putL {α : Type} (lt : α → α → Bool) (x : α) : List α → List α
  | [] => [x]
  | y :: l => if lt x y then x :: y :: l else if lt y x then y :: putL lt x l else y :: l
theorem mem_putL {α : Type} {lt : α → α → Bool} (S : Strict lt) {x z : α} {l : List α} : z ∈ putL lt x l ↔ z = x ∨ z ∈ l := by
  induction l with
  | nil => simp [putL]
  | cons y l ih =>
    simp only [putL]
    split
    · simp
    · split
      · simp only [List.mem_cons, ih]
        constructor
        · rintro (h | h | h) <;> simp [h]
        · rintro (h | h | h) <;> simp [h]
      · rename_i h1 h2
        have e : x = y := S.tot _ _ (by simpa using h1) (by simpa using h2)
        subst e
        simp
theorem asc_putL {α : Type} {lt : α → α → Bool} (S : Strict lt) {x : α} {l : List α} (h : Asc lt l) : Asc lt (putL lt x l) := by
  induction l with
  | nil => simp [putL, Asc]
  | cons y l ih =>
    have h' := List.pairwise_cons.1 h
    simp only [putL]
    split
    · rename_i h1
      refine List.pairwise_cons.2 ⟨fun z hz => ?_, h⟩
      rcases List.mem_cons.1 hz with rfl | hz
      · exact h1
      · exact S.trans _ _ _ h1 (h'.1 z hz)
    · split
      · rename_i h1 h2
        refine List.pairwise_cons.2 ⟨fun z hz => ?_, ih h'.2⟩
        rcases (mem_putL S).1 hz with rfl | hz
        · exact h2
        · exact h'.1 z hz
      · exact h
theorem asc_unique {α : Type} {lt : α → α → Bool} (S : Strict lt) : ∀ {l l' : List α}, Asc lt l → Asc lt l' → (∀ z, z ∈ l ↔ z ∈ l') → l = l'
  | [], [], _, _, _ => rfl
  | [], b :: l', _, _, h => absurd ((h b).2 List.mem_cons_self) (by simp)
  | a :: l, [], _, _, h => absurd ((h a).1 List.mem_cons_self) (by simp)
  | a :: l, b :: l', h1, h2, h => by
    have k1 := List.pairwise_cons.1 h1
    have k2 := List.pairwise_cons.1 h2
    have e : a = b := by
      rcases List.mem_cons.1 ((h a).1 List.mem_cons_self) with e | ha
      · exact e
      · rcases List.mem_cons.1 ((h b).2 List.mem_cons_self) with e | hb
        · exact e.symm
        · have q1 := k2.1 a ha
          have q2 := k1.1 b hb
          rw [S.asym q1] at q2; cases q2
    subst e
    have e2 : l = l' := asc_unique S k1.2 k2.2 fun z => by
      constructor
      · intro hz
        rcases List.mem_cons.1 ((h z).1 (List.mem_cons_of_mem _ hz)) with e | hz'
        · subst e; have := k1.1 z hz; rw [S.irr] at this; cases this
        · exact hz'
      · intro hz
        rcases List.mem_cons.1 ((h z).2 (List.mem_cons_of_mem _ hz)) with e | hz'
        · subst e; have := k2.1 z hz; rw [S.irr] at this; cases this
        · exact hz'
    rw [e2]
def sortL {α : Type} (lt : α → α → Bool) (xs : List α) : List α := xs.foldl (fun l x => putL lt x l) []
theorem foldl_putL {α : Type} {lt : α → α → Bool} (S : Strict lt) (xs : List α) : ∀ l, Asc lt l → Asc lt (xs.foldl (fun l x => putL lt x l) l) ∧ ∀ z, z ∈ xs.foldl (fun l x => putL lt x l) l ↔ z ∈ xs ∨ z ∈ l := by
  induction xs with
  | nil => intro l h; exact ⟨h, fun z => by simp⟩
  | cons x xs ih =>
    intro l h
    obtain ⟨h1, h2⟩ := ih (putL lt x l) (asc_putL S h)
    refine ⟨h1, fun z => ?_⟩
    rw [List.foldl_cons, h2, mem_putL S, List.mem_cons]
    constructor
    · rintro (h | h | h) <;> simp [h]
    · rintro ((h | h) | h) <;> simp [h]
theorem asc_sortL {α : Type} {lt : α → α → Bool} (S : Strict lt) (xs : List α) : Asc lt (sortL lt xs) := (foldl_putL S xs [] List.Pairwise.nil).1
theorem mem_sortL {α : Type} {lt : α → α → Bool} (S : Strict lt) {xs : List α} {z : α} : z ∈ sortL lt xs ↔ z ∈ xs := by
  have := (foldl_putL S xs [] List.Pairwise.nil).2 z
  simpa [sortL] using this
theorem sortL_snoc {α : Type} (lt : α → α → Bool) (xs : List α) (x : α) : sortL lt (xs ++ [x]) = putL lt x (sortL lt xs) := by simp [sortL]
theorem sortL_eq {α : Type} {lt : α → α → Bool} (S : Strict lt) {xs l : List α} (h : Asc lt l) (hm : ∀ z, z ∈ l ↔ z ∈ xs) : l = sortL lt xs :=
  asc_unique S h (asc_sortL S xs) fun z => by rw [mem_sortL S, hm]
theorem sortL_asc {α : Type} {lt : α → α → Bool} (S : Strict lt) {xs : List α} (h : Asc lt xs) : sortL lt xs = xs := (sortL_eq S h fun _ => Iff.rfl).symm
theorem putL_len {α : Type} (lt : α → α → Bool) (x : α) (l : List α) : (putL lt x l).length ≤ l.length + 1 := by
  induction l with
  | nil => simp [putL]
  | cons y l ih =>
    simp only [putL]
    split
    · simp
    · split
      · simp; exact ih
      · simp
theorem putL_pos {α : Type} (lt : α → α → Bool) (x : α) (l : List α) : 0 < (putL lt x l).length := by
  cases l with
  | nil => simp [putL]
  | cons y l =>
    simp only [putL]
    split
    · simp
    · split <;> simp
theorem sortL_len {α : Type} (lt : α → α → Bool) (xs : List α) : (sortL lt xs).length ≤ xs.length := by
  suffices h : ∀ l, (xs.foldl (fun l x => putL lt x l) l).length ≤ xs.length + l.length by simpa [sortL] using h []
  induction xs with
  | nil => intro l; simp
  | cons x xs ih =>
    intro l
    have h1 := ih (putL lt x l)
    have h2 := putL_len lt x l
    simp only [List.foldl_cons, List.length_cons]
    omega
theorem putL_in {α : Type} {lt : α → α → Bool} (S : Strict lt) {x : α} {l : List α} (h : Asc lt l) (hx : x ∈ l) : putL lt x l = l :=
  asc_unique S (asc_putL S h) h fun z => by
    rw [mem_putL S]
    constructor
    · rintro (rfl | h)
      · exact hx
      · exact h
    · exact .inr
theorem putL_at {α : Type} {lt : α → α → Bool} (S : Strict lt) {x : α} {l : List α} (h : Asc lt l) (k : Nat) (hlo : ∀ z ∈ l.take k, lt z x = true) (hhi : ∀ z ∈ l.drop k, lt x z = true) : putL lt x l = l.take k ++ x :: l.drop k := by
  refine asc_unique S (asc_putL S h) ?_ fun z => ?_
  · have h' : Asc lt (l.take k ++ l.drop k) := by rw [List.take_append_drop]; exact h
    obtain ⟨h1, h2, h3⟩ := List.pairwise_append.1 h'
    refine List.pairwise_append.2 ⟨h1, List.pairwise_cons.2 ⟨hhi, h2⟩, fun a ha b hb => ?_⟩
    rcases List.mem_cons.1 hb with rfl | hb
    · exact hlo a ha
    · exact h3 a ha b hb
  · rw [mem_putL S]
    have : z ∈ l ↔ z ∈ l.take k ∨ z ∈ l.drop k := by rw [← List.mem_append, List.take_append_drop]
    rw [this, List.mem_append, List.mem_cons]
    constructor
    · rintro (h | h | h) <;> simp [h]
    · rintro (h | h | h) <;> simp [h]
theorem lo_of {α : Type} {lt : α → α → Bool} (S : Strict lt) (d : α) {x : α} {l : List α} (h : Asc lt l) {k : Nat} (hk : k ≤ l.length) (h1 : k = 0 ∨ lt (l.getD (k - 1) d) x = true) : ∀ z ∈ l.take k, lt z x = true := by
  intro z hz
  obtain ⟨i, hi, rfl⟩ := List.getElem_of_mem hz
  rw [List.getElem_take]
  simp at hi
  rcases h1 with h1 | h1
  · omega
  · have e1 : l.getD (k - 1) d = l[k - 1]'(by omega) := by simp [List.getD, show k - 1 < l.length by omega]
    rw [e1] at h1
    by_cases hik : i = k - 1
    · subst hik; exact h1
    · exact S.trans _ _ _ ((List.pairwise_iff_getElem.1 h) i (k - 1) (by omega) (by omega) (by omega)) h1
theorem hi_of {α : Type} {lt : α → α → Bool} (S : Strict lt) (d : α) {x : α} {l : List α} (h : Asc lt l) {k : Nat} (h1 : k = l.length ∨ lt x (l.getD k d) = true) : ∀ z ∈ l.drop k, lt x z = true := by
  intro z hz
  obtain ⟨i, hi, rfl⟩ := List.getElem_of_mem hz
  rw [List.getElem_drop]
  simp at hi
  rcases h1 with h1 | h1
  · omega
  · have e1 : l.getD k d = l[k]'(by omega) := by simp [List.getD, show k < l.length by omega]
    rw [e1] at h1
    by_cases hi0 : i = 0
    · subst hi0; exact h1
    · exact S.trans _ _ _ h1 ((List.pairwise_iff_getElem.1 h) k (k + i) (by omega) (by omega) (by omega))
/-! ### once out of a row that is in order -/
def ddTo {α : Type} [DecidableEq α] (d : α) (l : List α) : Nat → List α := iter (fun i acc => if i = 0 ∨ l.getD (i - 1) d ≠ l.getD i d then acc ++ [l.getD i d] else acc) []
theorem ddTo_t {α : Type} [DecidableEq α] {d : α} {l : List α} {k : Nat} (h : k = 0 ∨ l.getD (k - 1) d ≠ l.getD k d) : ddTo d l (k + 1) = ddTo d l k ++ [l.getD k d] := by
  show (if k = 0 ∨ l.getD (k - 1) d ≠ l.getD k d then ddTo d l k ++ [l.getD k d] else ddTo d l k) = _
  rw [if_pos h]
theorem ddTo_f {α : Type} [DecidableEq α] {d : α} {l : List α} {k : Nat} (h0 : k ≠ 0) (h : l.getD (k - 1) d = l.getD k d) : ddTo d l (k + 1) = ddTo d l k := by
  show (if k = 0 ∨ l.getD (k - 1) d ≠ l.getD k d then ddTo d l k ++ [l.getD k d] else ddTo d l k) = _
  rw [if_neg (by simp only [not_or, Decidable.not_not]; exact ⟨h0, h⟩)]
theorem ddTo_len {α : Type} [DecidableEq α] (d : α) (l : List α) (k : Nat) : (ddTo d l k).length ≤ k := by
  induction k with
  | zero => simp [ddTo, iter]
  | succ k ih =>
    by_cases h : k = 0 ∨ l.getD (k - 1) d ≠ l.getD k d
    · rw [ddTo_t h]; simp; exact ih
    · simp only [not_or, Decidable.not_not] at h
      rw [ddTo_f h.1 h.2]; omega
theorem ddTo_sound {α : Type} [DecidableEq α] {lt : α → α → Bool} (S : Strict lt) (d : α) (l : List α) (hs : l.Pairwise fun a b => lt b a = false) : ∀ k, k ≤ l.length → Asc lt (ddTo d l k) ∧ (∀ z, z ∈ ddTo d l k ↔ z ∈ l.take k) := by
  intro k
  induction k with
  | zero => intro _; exact ⟨List.Pairwise.nil, fun z => by simp [ddTo, iter]⟩
  | succ k ih =>
    intro hk
    obtain ⟨i1, i2⟩ := ih (by omega)
    have ek : l.getD k d = l[k] := by simp [List.getD, show k < l.length by omega]
    have et : l.take (k + 1) = l.take k ++ [l[k]] := List.take_succ_eq_append_getElem (by omega)
    have hle : ∀ z ∈ l.take k, lt l[k] z = false := fun z hz => by
      obtain ⟨i, hi, rfl⟩ := List.getElem_of_mem hz
      rw [List.getElem_take]
      simp at hi
      exact (List.pairwise_iff_getElem.1 hs) i k (by omega) (by omega) (by omega)
    by_cases h : k = 0 ∨ l.getD (k - 1) d ≠ l.getD k d
    · rw [ddTo_t h, et, ek]
      refine ⟨List.pairwise_append.2 ⟨i1, by simp, fun a ha b hb => ?_⟩, fun z => by rw [List.mem_append, List.mem_append, i2]⟩
      have hb' : b = l[k] := by simpa using hb
      subst hb'
      have ha' := (i2 a).1 ha
      cases h4 : lt a l[k]
      · exfalso
        have e := S.tot _ _ h4 (hle a ha')
        rcases h with h | h
        · subst h; simp at ha'
        · apply h
          have hk0 : 0 < k := by
            rcases Nat.eq_zero_or_pos k with e0 | e0
            · subst e0; simp at ha'
            · exact e0
          have e1 : l.getD (k - 1) d = l[k - 1] := by simp [List.getD, show k - 1 < l.length by omega]
          rw [e1, ek]
          obtain ⟨i, hi, hia⟩ := List.getElem_of_mem ha'
          rw [List.getElem_take] at hia
          simp at hi
          have q2 : lt l[k] l[k - 1] = false := hle _ (by rw [List.mem_iff_getElem]; exact ⟨k - 1, by simp; omega, by rw [List.getElem_take]⟩)
          apply S.tot _ _ ?_ q2
          by_cases hik : i = k - 1
          · subst hik; rw [hia]; exact h4
          · have q1 := (List.pairwise_iff_getElem.1 hs) i (k - 1) (by omega) (by omega) (by omega)
            rw [hia, e] at q1
            exact q1
      · rfl
    · simp only [not_or, Decidable.not_not] at h
      rw [ddTo_f h.1 h.2, et]
      refine ⟨i1, fun z => ?_⟩
      have e1 : l.getD (k - 1) d = l[k - 1]'(by omega) := by simp [List.getD, show k - 1 < l.length by omega]
      rw [List.mem_append, i2]
      constructor
      · exact .inl
      · rintro (hz | hz)
        · exact hz
        · have : z = l[k] := by simpa using hz
          rw [this, ← ek, ← h.2, e1, List.mem_iff_getElem]
          exact ⟨k - 1, by simp; omega, by rw [List.getElem_take]⟩
theorem dd_sort {α : Type} [DecidableEq α] {lt : α → α → Bool} (S : Strict lt) (d : α) {l xs : List α} (hs : l.Pairwise fun a b => lt b a = false) (hp : ∀ z, z ∈ l ↔ z ∈ xs) : ddTo d l l.length = sortL lt xs := by
  obtain ⟨h1, h2⟩ := ddTo_sound S d l hs l.length (Nat.le_refl _)
  exact sortL_eq S h1 fun z => by rw [h2, List.take_length, hp]
end
section
open Go.ChangeShapes Go.WideShapes Go.ChangeAt Go.RowKit
def shapeAt (cs : List (Int × Int)) (k : Nat) : Bool := onB (cx cs k) (cy cs k) && (k == 0 || bef (cx cs (k - 1)) (cy cs (k - 1)) (cx cs k) (cy cs k))
def shapeB (cs : List (Int × Int)) : Bool := allTo (shapeAt cs) cs.length && btw cs.length 1 8
theorem shapeB_no {cs : List (Int × Int)} {k : Nat} (h : k < cs.length) (hk : shapeAt cs k = false) : shapeB cs = false := by
  simp [shapeB, allTo_false h hk]
theorem shapeAt_off {cs : List (Int × Int)} {k : Nat} (h : onB (cx cs k) (cy cs k) = false) : shapeAt cs k = false := by simp [shapeAt, h]
theorem shapeAt_zero {cs : List (Int × Int)} {k : Nat} (h : onB (cx cs k) (cy cs k) = true) (hk : k = 0) : shapeAt cs k = true := by subst hk; simp [shapeAt, h]
theorem shapeAt_pos {cs : List (Int × Int)} {k : Nat} (h : onB (cx cs k) (cy cs k) = true) (hk : k ≠ 0) {b : Bool} (hb : bef (cx cs (k - 1)) (cy cs (k - 1)) (cx cs k) (cy cs k) = b) : shapeAt cs k = b := by simp [shapeAt, h, hk, hb]
theorem l2Before_b (x y x' y' : Int) (b : Bool) (h : bef x y x' y' = b) (w : World) : Calls Try.prog 90 #[.agg #[.int .i64 x, .int .i64 y], .agg #[.int .i64 x', .int .i64 y']] w fun e w' => e = .returned (.bool b) ∧ ∃ x, w' = ext w x := h ▸ l2Before_any x y x' y' w
theorem specIsShape_any (cs : List (Int × Int)) (v : Value) (w : World) (h : CellsAt w v cs) :
    Calls Try.prog 82 #[v] w fun e w' => e = .returned (.bool (shapeB cs)) ∧ ∃ x, w' = ext w x := by
  obtain ⟨a, b, o, cap, rfl, hc1, hc2, hc3, hcell⟩ := h.opn
  go_enter Try.func82, Try.ntmps82
  go_wp2_with fail
  go_loopw [3] (fun i wr => ∃ k : Nat, k ≤ cs.length ∧ i = .int .i64 k ∧ allTo (shapeAt cs) k = true ∧ ∃ x, wr = ext w x) (fun i _ => cs.length - (intOf i).toNat)
  case atStart => exact ⟨0, Nat.zero_le _, rfl, rfl, (by repeat (first | exact ext_refl _ | (with_reducible assumption) | refine ext_ext' ?_ _ | refine ext_alloc' ?_ _ | refine ext_drew' ?_))⟩
  case round =>
    obtain ⟨k, hk, rfl, hall, x, rfl⟩ := hrel
    have HA := Lib.hid hall
    clear hall
    by_cases hlt : k < cs.length
    · obtain ⟨hb, hi, hcx, hcy⟩ := hcell k hlt
      cases hx : btw (cx cs k) 0 7
      · have hon := Lib.hid (show onB (cx cs k) (cy cs k) = false by simp [onB, hx])
        clear hcell
        go_wp2_with fail
        refine wp_region_ext_lit (by kernel_rfl) (by kernel_rfl) ?_
        repeat (go_big_quiet_step ((first | (go_at_call 67; first | exact Calls_ext_of2 (l1In_b _ _ _ _ hx _) | exact Calls_ext_of (l1In_b _ _ _ _ hx _)))))
        refine wpQuiet_nil ?_
        intro _ hwq
        obtain ⟨xq, hwq⟩ := hwq
        subst hwq
        go_wp2_with fail
        go_ret
        exact ⟨ret_bool (shapeB_no hlt (shapeAt_off hon.out)).symm, (by repeat (first | exact ext_refl _ | (with_reducible assumption) | refine ext_ext' ?_ _ | refine ext_alloc' ?_ _ | refine ext_drew' ?_))⟩
      cases hy : btw (cy cs k) 0 7
      · have hon := Lib.hid (show onB (cx cs k) (cy cs k) = false by simp [onB, hy])
        clear hcell
        go_wp2_with fail
        refine wp_region_ext_lit (by kernel_rfl) (by kernel_rfl) ?_
        repeat (go_big_quiet_step ((first | (go_at_call 67; first | exact Calls_ext_of2 (l1In_b _ _ _ _ (by assumption) _) | exact Calls_ext_of (l1In_b _ _ _ _ (by assumption) _)))))
        refine wpQuiet_nil ?_
        intro _ hwq
        obtain ⟨xq, hwq⟩ := hwq
        subst hwq
        go_wp2_with fail
        go_ret
        exact ⟨ret_bool (shapeB_no hlt (shapeAt_off hon.out)).symm, (by repeat (first | exact ext_refl _ | (with_reducible assumption) | refine ext_ext' ?_ _ | refine ext_alloc' ?_ _ | refine ext_drew' ?_))⟩
      · have hon := Lib.hid (show onB (cx cs k) (cy cs k) = true by simp [onB, hx, hy])
        by_cases hk0 : k = 0
        · have H0 := Lib.hid hk0
          have hd : decide (0 < k) = false := decide_eq_false (by omega)
          clear hcell hk0
          go_wp2_with fail
          refine wp_region_ext_lit (by kernel_rfl) (by kernel_rfl) ?_
          repeat (go_big_quiet_step ((first | (go_at_call 67; first | exact Calls_ext_of2 (l1In_b _ _ _ _ (by assumption) _) | exact Calls_ext_of (l1In_b _ _ _ _ (by assumption) _)))))
          refine wpQuiet_nil ?_
          intro _ hwq
          obtain ⟨xq, hwq⟩ := hwq
          subst hwq
          go_wp2_with fail
          go_roundw
          case rel => exact ⟨k + 1, hlt, int_succ k, allTo_succ HA.out (shapeAt_zero hon.out H0.out), (by repeat (first | exact ext_refl _ | (with_reducible assumption) | refine ext_ext' ?_ _ | refine ext_alloc' ?_ _ | refine ext_drew' ?_))⟩
          case measure => simp [intOf]; omega
        · obtain ⟨hb', hi', hcx', hcy'⟩ := hcell (k - 1) (by omega)
          have e : ((k - 1 : Nat) : Int) = (k : Int) - 1 := by omega
          rw [e] at hi'
          have hd : decide (0 < k) = true := decide_eq_true (by omega)
          have hk1 : 1 ≤ k := by omega
          have H0 := Lib.hid hk0
          clear hcell e hk0
          cases hbf : bef (cx cs (k - 1)) (cy cs (k - 1)) (cx cs k) (cy cs k)
          all_goals
            go_wp2_with fail
            refine wp_region_ext_lit (by kernel_rfl) (by kernel_rfl) ?_
            repeat (go_big_quiet_step ((first | (go_at_call 67; first | exact Calls_ext_of2 (l1In_b _ _ _ _ (by assumption) _) | exact Calls_ext_of (l1In_b _ _ _ _ (by assumption) _)) | (go_at_call 90; first | exact Calls_ext_of2 (l2Before_b _ _ _ _ _ hbf _) | exact Calls_ext_of (l2Before_b _ _ _ _ _ hbf _)))))
            refine wpQuiet_nil ?_
            intro _ hwq
            obtain ⟨xq, hwq⟩ := hwq
            subst hwq
            go_wp2_with fail
          · go_ret
            exact ⟨ret_bool (shapeB_no hlt (shapeAt_pos hon.out H0.out hbf)).symm, (by repeat (first | exact ext_refl _ | (with_reducible assumption) | refine ext_ext' ?_ _ | refine ext_alloc' ?_ _ | refine ext_drew' ?_))⟩
          · go_roundw
            case rel => exact ⟨k + 1, hlt, int_succ k, allTo_succ HA.out (shapeAt_pos hon.out H0.out hbf), (by repeat (first | exact ext_refl _ | (with_reducible assumption) | refine ext_ext' ?_ _ | refine ext_alloc' ?_ _ | refine ext_drew' ?_))⟩
            case measure => simp [intOf]; omega
    · have hks := Lib.hid (show k = cs.length by omega)
      go_wp2_with (first | (go_at_call 67; refine (l1In_any _ _ _ _).mono ?_; rintro e w' ⟨rfl, xe, rfl⟩))
      go_ret
      exact ⟨ret_bool (by rw [shapeB, ← hks.out, HA.out]; rfl), (by repeat (first | exact ext_refl _ | (with_reducible assumption) | refine ext_ext' ?_ _ | refine ext_alloc' ?_ _ | refine ext_drew' ?_))⟩
theorem shapeB_bd {cs : List (Int × Int)} (h : shapeB cs = true) : 1 ≤ cs.length ∧ cs.length ≤ 8 ∧ ∀ k, k < cs.length → 0 ≤ cx cs k ∧ cx cs k ≤ 7 ∧ 0 ≤ cy cs k ∧ cy cs k ≤ 7 := by
  simp only [shapeB, Bool.and_eq_true, btw_iff] at h
  refine ⟨by omega, by omega, fun k hk => ?_⟩
  have := allTo_true.1 h.1 k hk
  simp only [shapeAt, onB, Bool.and_eq_true, btw_iff] at this
  omega
end
section
open Go.ChangeShapes Go.WideShapes Go.ChangeAt Go.RowKit
def ltI (a b : Int) : Bool := decide (a < b)
theorem strictI : Strict ltI := ⟨fun a => by simp [ltI], fun a b c => by simp [ltI]; omega, fun a b => by simp [ltI]; omega⟩
def ltC (a b : Int × Int) : Bool := bef a.1 a.2 b.1 b.2
theorem ltC_iff {a b : Int × Int} : ltC a b = true ↔ a.2 < b.2 ∨ a.2 = b.2 ∧ a.1 < b.1 := by simp [ltC, bef]
theorem ltC_not {a b : Int × Int} : ltC a b = false ↔ ¬ (a.2 < b.2 ∨ a.2 = b.2 ∧ a.1 < b.1) := by rw [← ltC_iff]; simp
theorem strictC : Strict ltC := ⟨fun a => by rw [ltC_not]; omega, fun a b c => by rw [ltC_iff, ltC_iff, ltC_iff]; omega, fun a b h1 h2 => by
  rw [ltC_not] at h1 h2
  exact Prod.ext (by omega) (by omega)⟩
def lexL : List (Int × Int) → List (Int × Int) → Bool
  | a :: l, b :: m => ltC a b || (!ltC b a && lexL l m)
  | _, _ => false
theorem lexL_irr : ∀ a : List (Int × Int), lexL a a = false
  | [] => rfl
  | a :: l => by simp [lexL, strictC.irr, lexL_irr l]
theorem lexL_trans : ∀ a b c : List (Int × Int), lexL a b = true → lexL b c = true → lexL a c = true
  | [], _, _, h, _ => by simp [lexL] at h
  | _ :: _, [], _, h, _ => by simp [lexL] at h
  | _ :: _, _ :: _, [], _, h => by simp [lexL] at h
  | a :: l, b :: m, c :: n, h1, h2 => by
    simp only [lexL, Bool.or_eq_true, Bool.and_eq_true, Bool.not_eq_true'] at h1 h2 ⊢
    rcases h1 with h1 | ⟨h1, k1⟩
    · rcases h2 with h2 | ⟨h2, k2⟩
      · exact .inl (strictC.trans _ _ _ h1 h2)
      · left
        cases h3 : ltC b c
        · rw [← strictC.tot _ _ h3 h2]; exact h1
        · exact strictC.trans _ _ _ h1 h3
    · rcases h2 with h2 | ⟨h2, k2⟩
      · left
        cases h3 : ltC a b
        · rw [strictC.tot _ _ h3 h1]; exact h2
        · exact strictC.trans _ _ _ h3 h2
      · cases h3 : ltC a b
        · have e := strictC.tot _ _ h3 h1
          subst e
          exact .inr ⟨h2, lexL_trans _ _ _ k1 k2⟩
        · left
          cases h4 : ltC b c
          · rw [← strictC.tot _ _ h4 h2]; exact h3
          · exact strictC.trans _ _ _ h3 h4
theorem lexL_tot : ∀ a b : List (Int × Int), a.length = b.length → lexL a b = false → lexL b a = false → a = b
  | [], [], _, _, _ => rfl
  | [], _ :: _, h, _, _ => by simp at h
  | _ :: _, [], h, _, _ => by simp at h
  | a :: l, b :: m, h, h1, h2 => by
    simp only [lexL, Bool.or_eq_false_iff, Bool.and_eq_false_iff, Bool.not_eq_false'] at h1 h2
    have e := strictC.tot _ _ h1.1 h2.1
    subst e
    have k1 : lexL l m = false := by
      rcases h1.2 with h | h
      · rw [strictC.irr] at h; cases h
      · exact h
    have k2 : lexL m l = false := by
      rcases h2.2 with h | h
      · rw [strictC.irr] at h; cases h
      · exact h
    rw [lexL_tot l m (by simpa using h) k1 k2]
def ltS (a b : List (Int × Int)) : Bool := decide (a.length < b.length) || (decide (a.length = b.length) && lexL a b)
theorem ltS_iff {a b : List (Int × Int)} : ltS a b = true ↔ a.length < b.length ∨ a.length = b.length ∧ lexL a b = true := by simp [ltS]
theorem ltS_not {a b : List (Int × Int)} : ltS a b = false ↔ ¬ (a.length < b.length) ∧ (a.length = b.length → lexL a b = false) := by
  have h := ltS_iff (a := a) (b := b)
  cases h2 : ltS a b
  · simp only [h2, Bool.false_eq_true, false_iff, not_or, not_and, Bool.not_eq_true] at h
    simp only [true_iff]; exact h
  · simp only [h2, true_iff] at h
    simp only [Bool.true_eq_false, false_iff, not_and, Classical.not_imp, Bool.not_eq_false]
    intro h3
    rcases h with h | h
    · exact absurd h h3
    · exact h
theorem strictS : Strict ltS := ⟨fun a => by rw [ltS_not]; exact ⟨by omega, fun _ => lexL_irr a⟩, fun a b c => by
  rw [ltS_iff, ltS_iff, ltS_iff]
  rintro (h | ⟨h, k⟩) (h2 | ⟨h2, k2⟩)
  · left; omega
  · left; omega
  · left; omega
  · right; exact ⟨by omega, lexL_trans _ _ _ k k2⟩, fun a b h1 h2 => by
  rw [ltS_not] at h1 h2
  have e : a.length = b.length := by omega
  exact lexL_tot _ _ e (h1.2 e) (h2.2 e.symm)⟩
/-- -1, 0 or 1 -/
def cmpS (a b : List (Int × Int)) : Int := if ltS a b then -1 else if ltS b a then 1 else 0
theorem cmpS_short {a b : List (Int × Int)} (h : a.length < b.length) : cmpS a b = -1 := by simp [cmpS, ltS, h]
theorem cmpS_long {a b : List (Int × Int)} (h : b.length < a.length) : cmpS a b = 1 := by
  have h1 : ltS a b = false := by rw [ltS_not]; omega
  have h2 : ltS b a = true := by rw [ltS_iff]; exact .inl h
  simp [cmpS, h1, h2]
theorem drop_cons (a : List (Int × Int)) (k : Nat) (h : k < a.length) : a.drop k = (cx a k, cy a k) :: a.drop (k + 1) := by
  have e : (cx a k, cy a k) = a[k] := by simp [cx, cy, List.getD, h]
  rw [e]; exact List.drop_eq_getElem_cons h
/-- the first k cells agree -/
def agree (a b : List (Int × Int)) (k : Nat) : Prop := lexL a b = lexL (a.drop k) (b.drop k) ∧ lexL b a = lexL (b.drop k) (a.drop k)
theorem agree_zero (a b : List (Int × Int)) : agree a b 0 := ⟨rfl, rfl⟩
theorem agree_succ {a b : List (Int × Int)} {k : Nat} (h : agree a b k) (ha : k < a.length) (hb : k < b.length) (h1 : bef (cx a k) (cy a k) (cx b k) (cy b k) = false) (h2 : bef (cx b k) (cy b k) (cx a k) (cy a k) = false) : agree a b (k + 1) := by
  have k1 : ltC (cx a k, cy a k) (cx b k, cy b k) = false := h1
  have k2 : ltC (cx b k, cy b k) (cx a k, cy a k) = false := h2
  unfold agree at h
  rw [drop_cons a k ha, drop_cons b k hb] at h
  simp only [lexL, k1, k2, Bool.not_false, Bool.true_and, Bool.false_or] at h
  exact h
theorem cmpS_less {a b : List (Int × Int)} {k : Nat} (h : agree a b k) (he : a.length = b.length) (hk : k < a.length) (h1 : bef (cx a k) (cy a k) (cx b k) (cy b k) = true) : cmpS a b = -1 := by
  have k1 : ltC (cx a k, cy a k) (cx b k, cy b k) = true := h1
  have : ltS a b = true := by
    rw [ltS_iff, h.1, drop_cons a k hk, drop_cons b k (by omega)]
    exact .inr ⟨he, by simp [lexL, k1]⟩
  simp [cmpS, this]
theorem cmpS_more {a b : List (Int × Int)} {k : Nat} (h : agree a b k) (he : a.length = b.length) (hk : k < a.length) (h1 : bef (cx b k) (cy b k) (cx a k) (cy a k) = true) : cmpS a b = 1 := by
  have k1 : ltC (cx b k, cy b k) (cx a k, cy a k) = true := h1
  have k2 : ltS b a = true := by
    rw [ltS_iff, h.2, drop_cons a k hk, drop_cons b k (by omega)]
    exact .inr ⟨he.symm, by simp [lexL, k1]⟩
  have k3 := strictS.asym k2
  simp [cmpS, k2, k3]
theorem cmpS_same {a b : List (Int × Int)} {k : Nat} (h : agree a b k) (he : a.length = b.length) (hk : a.length ≤ k) : cmpS a b = 0 := by
  have e1 : lexL a b = false := by rw [h.1, List.drop_eq_nil_of_le hk]; rfl
  have e2 : lexL b a = false := by rw [h.2, List.drop_eq_nil_of_le hk]; simp [lexL]
  have k1 : ltS a b = false := by rw [ltS_not]; exact ⟨by omega, fun _ => e1⟩
  have k2 : ltS b a = false := by rw [ltS_not]; exact ⟨by omega, fun _ => e2⟩
  simp [cmpS, k1, k2]
theorem cmpS_neg {a b : List (Int × Int)} : cmpS a b < 0 ↔ ltS a b = true := by
  unfold cmpS
  cases h : ltS a b <;> cases h2 : ltS b a <;> simp
theorem cmpS_ge {a b : List (Int × Int)} : (0 ≤ cmpS a b) ↔ ltS a b = false := by
  unfold cmpS
  cases h : ltS a b <;> cases h2 : ltS b a <;> simp
/-! ### moves and corners -/
def movedL (cs : List (Int × Int)) (x y : Int) : List (Int × Int) := cs.map fun c => (c.1 + x, c.2 + y)
theorem movedL_len (cs : List (Int × Int)) (x y : Int) : (movedL cs x y).length = cs.length := by simp [movedL]
def mnX (cs : List (Int × Int)) : Nat → Int := iter (fun i m => min m (cx cs i)) (cx cs 0)
def mnY (cs : List (Int × Int)) : Nat → Int := iter (fun i m => min m (cy cs i)) (cy cs 0)
theorem mnX_succ (cs : List (Int × Int)) (k : Nat) : mnX cs (k + 1) = min (mnX cs k) (cx cs k) := rfl
theorem mnY_succ (cs : List (Int × Int)) (k : Nat) : mnY cs (k + 1) = min (mnY cs k) (cy cs k) := rfl
theorem mnX_le (cs : List (Int × Int)) (k : Nat) : ∀ i, i < k → mnX cs k ≤ cx cs i := by
  induction k with
  | zero => intro i hi; omega
  | succ k ih =>
    intro i hi
    rw [mnX_succ]
    by_cases e : i = k
    · subst e; omega
    · have := ih i (by omega); omega
theorem mnY_le (cs : List (Int × Int)) (k : Nat) : ∀ i, i < k → mnY cs k ≤ cy cs i := by
  induction k with
  | zero => intro i hi; omega
  | succ k ih =>
    intro i hi
    rw [mnY_succ]
    by_cases e : i = k
    · subst e; omega
    · have := ih i (by omega); omega
theorem mnX_at (cs : List (Int × Int)) (k : Nat) : ∃ i, (i < k ∨ i = 0) ∧ mnX cs k = cx cs i := by
  induction k with
  | zero => exact ⟨0, .inr rfl, rfl⟩
  | succ k ih =>
    obtain ⟨i, h1, h2⟩ := ih
    rw [mnX_succ]
    by_cases h : mnX cs k ≤ cx cs k
    · exact ⟨i, by omega, by omega⟩
    · exact ⟨k, by omega, by omega⟩
theorem mnY_at (cs : List (Int × Int)) (k : Nat) : ∃ i, (i < k ∨ i = 0) ∧ mnY cs k = cy cs i := by
  induction k with
  | zero => exact ⟨0, .inr rfl, rfl⟩
  | succ k ih =>
    obtain ⟨i, h1, h2⟩ := ih
    rw [mnY_succ]
    by_cases h : mnY cs k ≤ cy cs k
    · exact ⟨i, by omega, by omega⟩
    · exact ⟨k, by omega, by omega⟩
def left (cs : List (Int × Int)) : Int := mnX cs cs.length
def low (cs : List (Int × Int)) : Int := mnY cs cs.length
theorem cx_get {cs : List (Int × Int)} {i : Nat} (h : i < cs.length) : cx cs i = cs[i].1 := by simp [cx, List.getD, h]
theorem cy_get {cs : List (Int × Int)} {i : Nat} (h : i < cs.length) : cy cs i = cs[i].2 := by simp [cy, List.getD, h]
theorem left_le {cs : List (Int × Int)} {c : Int × Int} (h : c ∈ cs) : left cs ≤ c.1 := by
  obtain ⟨i, hi, rfl⟩ := List.getElem_of_mem h
  rw [← cx_get hi]; exact mnX_le cs cs.length i hi
theorem low_le {cs : List (Int × Int)} {c : Int × Int} (h : c ∈ cs) : low cs ≤ c.2 := by
  obtain ⟨i, hi, rfl⟩ := List.getElem_of_mem h
  rw [← cy_get hi]; exact mnY_le cs cs.length i hi
theorem left_at {cs : List (Int × Int)} (h : cs ≠ []) : ∃ c ∈ cs, left cs = c.1 := by
  have hp : 0 < cs.length := List.length_pos_iff.2 h
  obtain ⟨i, h1, h2⟩ := mnX_at cs cs.length
  have hi : i < cs.length := by omega
  exact ⟨cs[i], List.getElem_mem hi, by rw [← cx_get hi]; exact h2⟩
theorem low_at {cs : List (Int × Int)} (h : cs ≠ []) : ∃ c ∈ cs, low cs = c.2 := by
  have hp : 0 < cs.length := List.length_pos_iff.2 h
  obtain ⟨i, h1, h2⟩ := mnY_at cs cs.length
  have hi : i < cs.length := by omega
  exact ⟨cs[i], List.getElem_mem hi, by rw [← cy_get hi]; exact h2⟩
theorem left_same {cs ds : List (Int × Int)} (h : ∀ c, c ∈ cs ↔ c ∈ ds) : cs ≠ [] → left cs = left ds := by
  intro hc
  obtain ⟨c, hc1, hc2⟩ := left_at hc
  have hd : ds ≠ [] := by intro e; subst e; exact absurd ((h c).1 hc1) (by simp)
  obtain ⟨d, hd1, hd2⟩ := left_at hd
  have h1 := left_le ((h d).2 hd1)
  have h2 := left_le ((h c).1 hc1)
  omega
theorem low_same {cs ds : List (Int × Int)} (h : ∀ c, c ∈ cs ↔ c ∈ ds) : cs ≠ [] → low cs = low ds := by
  intro hc
  obtain ⟨c, hc1, hc2⟩ := low_at hc
  have hd : ds ≠ [] := by intro e; subst e; exact absurd ((h c).1 hc1) (by simp)
  obtain ⟨d, hd1, hd2⟩ := low_at hd
  have h1 := low_le ((h d).2 hd1)
  have h2 := low_le ((h c).1 hc1)
  omega
theorem asc_moved {cs : List (Int × Int)} (h : Asc ltC cs) (x y : Int) : Asc ltC (movedL cs x y) := by
  refine List.pairwise_map.2 (h.imp fun {a b} hab => ?_)
  rw [ltC_iff] at hab ⊢
  simp only
  omega
theorem mem_moved {cs : List (Int × Int)} {x y : Int} {c : Int × Int} : c ∈ movedL cs x y ↔ (c.1 - x, c.2 - y) ∈ cs := by
  simp only [movedL, List.mem_map]
  constructor
  · rintro ⟨d, hd, rfl⟩
    simp only [Int.add_sub_cancel]; exact hd
  · intro h
    exact ⟨_, h, Prod.ext (by simp) (by simp)⟩
/-- moved to the corner, in order -/
def cornerL (cs : List (Int × Int)) : List (Int × Int) := sortL ltC (movedL cs (-left cs) (-low cs))
def l2C (cs : List (Int × Int)) : List (Int × Int) := movedL cs (-left cs) (-low cs)
theorem corner_asc {cs : List (Int × Int)} (h : Asc ltC cs) : cornerL cs = l2C cs := sortL_asc strictC (asc_moved h _ _)
theorem corner_sort {cs : List (Int × Int)} : l2C (sortL ltC cs) = cornerL cs := by
  by_cases hc : cs = []
  · subst hc; rfl
  have hm : ∀ c, c ∈ sortL ltC cs ↔ c ∈ cs := fun c => mem_sortL strictC
  have e1 := left_same (fun c => (hm c).symm) hc
  have e2 := low_same (fun c => (hm c).symm) hc
  refine sortL_eq strictC ?_ fun z => ?_
  · exact asc_moved (asc_sortL strictC _) _ _
  · rw [l2C, mem_moved, mem_moved, hm, ← e1, ← e2]
theorem shape_asc {cs : List (Int × Int)} (h : shapeB cs = true) : Asc ltC cs := by
  simp only [shapeB, Bool.and_eq_true] at h
  have h1 := allTo_true.1 h.1
  have key : ∀ d i, i + d + 1 < cs.length → ltC (cs.getD i (0, 0)) (cs.getD (i + d + 1) (0, 0)) = true := by
    intro d
    induction d with
    | zero =>
      intro i hi
      have := h1 (i + 1) (by omega)
      simp only [shapeAt, Bool.and_eq_true] at this
      simpa [ltC, cx, cy] using this.2
    | succ d ih =>
      intro i hi
      have h2 := ih i (by omega)
      have h3 := h1 (i + d + 2) (by omega)
      simp only [shapeAt, Bool.and_eq_true] at h3
      have h4 : ltC (cs.getD (i + d + 1) (0, 0)) (cs.getD (i + (d + 1) + 1) (0, 0)) = true := by simpa [ltC, cx, cy, Nat.add_assoc] using h3.2
      exact strictC.trans _ _ _ h2 h4
  refine List.pairwise_iff_getElem.2 fun i j hi hj hij => ?_
  have := key (j - i - 1) i (by omega)
  rw [show i + (j - i - 1) + 1 = j by omega] at this
  simpa [List.getD, hi, hj] using this
/-! ### motions -/
def rot (c : Int × Int) : Int × Int := (-c.2, c.1)
def flip4 (m : Nat) (c : Int × Int) : Int × Int := if 4 ≤ m then (-c.1, c.2) else c
def carTo (m : Nat) (c : Int × Int) : Nat → Int × Int := iter (fun _ c => rot c) (flip4 m c)
def car (m : Nat) (c : Int × Int) : Int × Int := carTo m c (m % 4)
def turnL (m : Nat) (cs : List (Int × Int)) : List (Int × Int) := cs.map (car m)
def tshape (m : Nat) (cs : List (Int × Int)) : List (Int × Int) := cornerL (turnL m cs)
theorem carTo_bd {m : Nat} {c : Int × Int} {B : Int} (h : -B ≤ c.1 ∧ c.1 ≤ B ∧ -B ≤ c.2 ∧ c.2 ≤ B) (k : Nat) : -B ≤ (carTo m c k).1 ∧ (carTo m c k).1 ≤ B ∧ -B ≤ (carTo m c k).2 ∧ (carTo m c k).2 ≤ B := by
  induction k with
  | zero => simp only [carTo, iter, flip4]; split <;> omega
  | succ k ih => simp only [carTo, iter, rot] at ih ⊢; omega
def oTo (cs : List (Int × Int)) : Nat → List (List (Int × Int)) := iter (fun m l => putL ltS (tshape m cs) l) []
theorem oTo_succ (cs : List (Int × Int)) (m : Nat) : oTo cs (m + 1) = putL ltS (tshape m cs) (oTo cs m) := rfl
theorem oTo_asc (cs : List (Int × Int)) (m : Nat) : Asc ltS (oTo cs m) := by
  induction m with
  | zero => exact List.Pairwise.nil
  | succ m ih => rw [oTo_succ]; exact asc_putL strictS ih
theorem oTo_len (cs : List (Int × Int)) (m : Nat) : (oTo cs m).length ≤ m := by
  induction m with
  | zero => simp [oTo, iter]
  | succ m ih => rw [oTo_succ]; have := putL_len ltS (tshape m cs) (oTo cs m); omega
theorem oTo_mem {cs t : List (Int × Int)} {m : Nat} : t ∈ oTo cs m ↔ ∃ k, k < m ∧ t = tshape k cs := by
  induction m with
  | zero => simp [oTo, iter]
  | succ m ih =>
    rw [oTo_succ, mem_putL strictS, ih]
    constructor
    · rintro (rfl | ⟨k, h1, h2⟩)
      · exact ⟨m, by omega, rfl⟩
      · exact ⟨k, by omega, h2⟩
    · rintro ⟨k, h1, h2⟩
      by_cases e : k = m
      · subst e; exact .inl h2
      · exact .inr ⟨k, by omega, h2⟩
def orL (cs : List (Int × Int)) : List (List (Int × Int)) := oTo cs 8
def oV (cs : List (Int × Int)) : List (List (Int × Int)) := if shapeB cs then orL cs else []
theorem oV_no {cs : List (Int × Int)} (h : shapeB cs = false) : oV cs = [] := by simp [oV, h]
theorem oV_yes {cs : List (Int × Int)} (h : shapeB cs = true) : oV cs = orL cs := by simp [oV, h]
theorem oV_8 (cs : List (Int × Int)) : (oV cs).length ≤ 8 := by
  unfold oV; split
  · exact oTo_len cs 8
  · simp
theorem cornerL_len (cs : List (Int × Int)) : (cornerL cs).length ≤ cs.length := by
  have := sortL_len ltC (movedL cs (-left cs) (-low cs))
  rwa [movedL_len] at this
theorem tshape_len (m : Nat) (cs : List (Int × Int)) : (tshape m cs).length ≤ cs.length := by
  have := cornerL_len (turnL m cs)
  simpa [tshape, turnL] using this
theorem corner_bd {cs : List (Int × Int)} {A B : Int} (h : ∀ c ∈ cs, A ≤ c.1 ∧ c.1 ≤ B ∧ A ≤ c.2 ∧ c.2 ≤ B) : ∀ c ∈ cornerL cs, 0 ≤ c.1 ∧ c.1 ≤ B - A ∧ 0 ≤ c.2 ∧ c.2 ≤ B - A := by
  intro c hc
  have h1 : (c.1 - -left cs, c.2 - -low cs) ∈ cs := mem_moved.1 ((mem_sortL strictC).1 hc)
  have h2 := left_le h1
  have h3 := low_le h1
  have h4 := h _ h1
  have hne : cs ≠ [] := by intro e; subst e; simp at h1
  obtain ⟨d, hd1, hd2⟩ := left_at hne
  obtain ⟨e, he1, he2⟩ := low_at hne
  have h5 := h _ hd1
  have h6 := h _ he1
  simp only at h2 h3 h4
  omega
end
section
open Go.ChangeShapes Go.WideShapes Go.ChangeAt Go.RowKit

end
section
open Go.ChangeShapes Go.WideShapes Go.ChangeAt Go.RowKit
open Go.Shelf Go.Sort

end
section
open Go.ChangeShapes Go.WideShapes Go.ChangeAt Go.RowKit
open Go.Shelf Go.Sort

end
section
open Go.ChangeShapes Go.WideShapes Go.ChangeAt Go.RowKit
theorem Held.allC {W0 w : World} {L : List Row} {v : Value} {cs : List (Int × Int)} (H : Held W0 w (⟨v, 64, 2, 0 + cs.length, [] ++ cs.flatMap cv⟩ :: L)) : Held W0 w (rowC v cs :: L) := by
  rw [Nat.zero_add, List.nil_append] at H; exact H
theorem Held.posC {W0 w : World} {L : List Row} {v : Value} {cs : List (Int × Int)} (H : Held W0 w (rowC v cs :: L)) (h : 0 < cs.length) : ∃ g cap, v = .slice (some ⟨g, 0, none⟩) cs.length cap := by
  rcases (H.own _ List.mem_cons_self).2 with ⟨_, h0⟩ | ⟨g, cap, cur, hv, _⟩
  · simp only at h0; omega
  · exact ⟨g, cap, hv⟩
theorem oneC (cs : List (Int × Int)) : ∀ u ∈ cs.flatMap cv, u.oneCell' = true := by
  intro u hu
  obtain ⟨c, _, hu⟩ := List.mem_flatMap.1 hu
  simp [cv, iv] at hu
  rcases hu with rfl | rfl <;> rfl
theorem getD_cell (ds : List (Int × Int)) (k : Nat) : ds.getD k (0, 0) = (cx ds k, cy ds k) := rfl
end
section
open Go.ChangeShapes Go.WideShapes Go.ChangeAt Go.RowKit
theorem Sl_cellAt (w : World) (b : Nat) (x y : Int) (t : TypeId) (h : b = w.heap.size) : Sl (w.alloc (.cells #[.int .i64 x, .int .i64 y] t)) 2 (.slice (some ⟨b, 0, none⟩) 1 1) 1 [.int .i64 x, .int .i64 y] := by
  subst h; exact Sl_cell w x y t
theorem moved_succ (cs : List (Int × Int)) (x y : Int) {k : Nat} (h : k < cs.length) : (movedL cs x y).take (k + 1) = (movedL cs x y).take k ++ [(cx cs k + x, cy cs k + y)] := by
  rw [List.take_succ_eq_append_getElem (by rw [movedL_len]; exact h)]
  simp [movedL, cx, cy, List.getD, h]
def Near (B : Int) (cs : List (Int × Int)) : Prop := ∀ k, k < cs.length → -B ≤ cx cs k ∧ cx cs k ≤ B ∧ -B ≤ cy cs k ∧ cy cs k ≤ B
theorem near_mem {B : Int} {cs : List (Int × Int)} : Near B cs ↔ ∀ c ∈ cs, -B ≤ c.1 ∧ c.1 ≤ B ∧ -B ≤ c.2 ∧ c.2 ≤ B := by
  constructor
  · intro h c hc
    obtain ⟨i, hi, rfl⟩ := List.getElem_of_mem hc
    have := h i hi
    rwa [cx_get hi, cy_get hi] at this
  · intro h k hk
    rw [cx_get hk, cy_get hk]
    exact h _ (List.getElem_mem hk)
theorem near_left {B : Int} {cs : List (Int × Int)} (h : Near B cs) (h1 : 0 < cs.length) : (-B ≤ left cs ∧ left cs ≤ B) ∧ -B ≤ low cs ∧ low cs ≤ B := by
  obtain ⟨i, hi1, hi2⟩ := mnX_at cs cs.length
  obtain ⟨j, hj1, hj2⟩ := mnY_at cs cs.length
  have a := h i (by omega)
  have b := h j (by omega)
  unfold left low
  omega
end
section
open Go.ChangeShapes Go.WideShapes Go.ChangeAt Go.RowKit
abbrev boxR2 (b : Nat) (t : Nat) (u v : Value) : Row := ⟨.slice (some ⟨b, 0, none⟩) 1 1, t, 2, 1, [u, v]⟩
theorem Held.newBox2 {W0 w : World} {L : List Row} (H : Held W0 w L) (t : Nat) (u v : Value) : Held W0 (w.alloc (.cells #[u, v] t)) (boxR2 w.heap.size t u v :: L) :=
  H.push ((Below.refl _ _).alloc (Nat.le_refl _) _) ⟨rfl, .inr ⟨w.heap.size, 1, #[u, v], rfl, Nat.le_refl _, heap_alloc_new w _, Nat.le_refl _, by simp [maxLen], rfl, rfl⟩⟩
theorem Held.readBox2 {W0 w : World} {L : List Row} {b t : Nat} {u v : Value} (H : Held W0 w L) (h : boxR2 b t u v ∈ L) : w.cell? ⟨b, 0, none⟩ = some u ∧ w.cell? ⟨b, 1, none⟩ = some v ∧ w.frozen? ⟨b, 0, none⟩ = false ∧ w.frozen? ⟨b, 1, none⟩ = false ∧ Old w b := by
  have ho := H.own _ h
  exact ⟨by rw [ho.cellAt 0 (by show 0 < 1 * 2; omega)]; rfl, by rw [ho.cellAt 1 (by show 1 < 1 * 2; omega)]; rfl, ho.frozenAt 0, ho.frozenAt 1, ⟨(ho.lt b rfl).2⟩⟩
theorem Held.setBox2 {W0 w : World} {L : List Row} {b t : Nat} {u v : Value} (H : Held W0 w (boxR2 b t u v :: L)) (u' v' : Value) : Held W0 ((w.setCell ⟨b, 0, none⟩ u').setCell ⟨b, 1, none⟩ v') (boxR2 b t u' v' :: L) := by
  have hst := (H.own _ List.mem_cons_self).stored 0 u'
  have hst2 := hst.1.stored 1 v'
  exact (H.write hst.2 hst.1).write hst2.2 hst2.1
theorem Held.readB2 {W0 w : World} {L : List Row} {b t : Nat} {u v : Value} (H : Held W0 w L) (i : Nat) (h : L[i]? = some (boxR2 b t u v)) : w.cell? ⟨b, 0, none⟩ = some u ∧ w.cell? ⟨b, 1, none⟩ = some v ∧ w.frozen? ⟨b, 0, none⟩ = false ∧ w.frozen? ⟨b, 1, none⟩ = false ∧ Old w b := H.readBox2 (List.mem_of_getElem? h)
theorem Held.readB1 {W0 w : World} {L : List Row} {b t : Nat} {u : Value} (H : Held W0 w L) (i : Nat) (h : L[i]? = some (boxR b t u)) : w.cell? ⟨b, 0, none⟩ = some u ∧ w.frozen? ⟨b, 0, none⟩ = false ∧ Old w b :=
  ⟨(H.box (List.mem_of_getElem? h)).1, (H.box (List.mem_of_getElem? h)).2, H.boxO (List.mem_of_getElem? h)⟩
theorem Held.newBoxAt2 {W0 w : World} {L : List Row} (H : Held W0 w L) (t : Nat) (u v : Value) (b : Nat) (hb : w.heap.size = b) : Held W0 (w.alloc (.cells #[u, v] t)) (boxR2 b t u v :: L) := by subst hb; exact H.newBox2 t u v
theorem Held.newBoxAt {W0 w : World} {L : List Row} (H : Held W0 w L) (t : Nat) (u : Value) (b : Nat) (hb : w.heap.size = b) : Held W0 (w.alloc (.cells #[u] t)) (boxR b t u :: L) := by subst hb; exact H.newBox t u
theorem Held.setB2a {W0 w : World} {L : List Row} {b t : Nat} {u v : Value} (H : Held W0 w (boxR2 b t u v :: L)) (u' : Value) : Held W0 (w.setCell ⟨b, 0, none⟩ u') (boxR2 b t u' v :: L) := by
  have hst := (H.own _ List.mem_cons_self).stored 0 u'
  exact H.write hst.2 hst.1
theorem Held.setB2b {W0 w : World} {L : List Row} {b t : Nat} {u v : Value} (H : Held W0 w (boxR2 b t u v :: L)) (v' : Value) : Held W0 (w.setCell ⟨b, 1, none⟩ v') (boxR2 b t u v' :: L) := by
  have hst := (H.own _ List.mem_cons_self).stored 1 v'
  exact H.write hst.2 hst.1
end
section
open Go.ChangeShapes Go.WideShapes Go.ChangeAt Go.RowKit
section
variable {H : Type} {enc : TypeId × Value → H} {W : World} {base : Nat}
theorem IntsAt_trod {fuel : Nat} {v : Value} {x : DataW H × List MemPlace} (h : DataW.trod enc Try.prog W 0 (fun _ => true) true fuel 22 [v] = some x) : ∃ zs, IntsAt W v zs ∧ ∀ n ∈ zs, (Lit.int .i64 n).wf = true := by
  rcases open_ints Try.underlying22 Try.underlying3 (by kernel_rfl) h with ⟨hcs, _⟩ | ⟨ad, l, c, zs, hcs, _, hl, hm, hz, _, hcell, hwz⟩
  · simp only [List.cons.injEq, and_true] at hcs
    subst hcs
    exact ⟨[], ⟨none, 0, 0, 0, rfl, by simp, by simp [maxLen], by simp, fun h => by simp at h, fun i hi => by simp at hi⟩, fun n hn => by cases hn⟩
  · simp only [List.cons.injEq, and_true] at hcs
    subst hcs
    simp only [if_true] at hz
    have htl : (zs.take l).length = l := by simp; omega
    refine ⟨zs.take l, ?_, fun n hn => hwz n (List.mem_of_mem_take hn)⟩
    by_cases hp : 0 < zs.length
    · obtain ⟨b, o, rfl, hc⟩ := ints_at hcell hp
      refine ⟨_, b, o, c, by rw [htl], by omega, hm, by simp, fun hn => ⟨rfl, World.block_lt_of_cell? W ⟨b, o + 0, none⟩ (hc 0 hp)⟩, fun i hi => ?_⟩
      have hi' : i < l := by simp at hi; omega
      rw [hc i (by omega), List.map_take, List.getElem?_take, if_pos hi']
      simp [iv, List.getD, show i < zs.length by omega]
    · have : l = 0 := by omega
      subst this
      refine ⟨some ad, 0, 0, c, by simp, by simp, hm, by simp, fun hn => by simp at hn, fun i hi => by simp at hi⟩
set_option maxRecDepth 10000 in
theorem open_IntsAt {v : Value} {d : DataW H} {p : List MemPlace} (h : DataW.Trod enc Try.prog W 0 (fun _ => true) true 22 v d p) (hv : Value.okWide Try.prog W .any base 22 v) :
    ∃ zs, IntsAt W v zs ∧ ∀ n ∈ zs, (Lit.int .i64 n).wf = true := by
  obtain ⟨a, len, cap, rfl⟩ := okWide_slice Try.underlying22 hv
  obtain ⟨fuel, hf⟩ := h
  exact IntsAt_trod (by simpa [Value.cells] using hf)
end
end
section
open Go.ChangeShapes Go.WideShapes Go.ChangeAt Go.RowKit
def szLeftI (n : Nat) (left : Int) : Int := if left - n < 0 then -1 else left - n
theorem szIntS_any (cs : List Int) (v : Value) (left : Int) (w : World) (h : IntsAt w v cs) (h1 : 0 ≤ left) (h2 : left ≤ 1048576) :
    Calls Try.prog 39 #[v, .int .i64 left] w fun e w' => e = .returned (.int .i64 (szLeftI cs.length left)) ∧ ∃ x, w' = ext w x := by
  obtain ⟨a, b, o, cap, rfl, hc1, hc2, hc3, hcell⟩ := h.opn
  clear hcell
  have HF := Lib.hid (show szLeftI cs.length left = if left - cs.length < 0 then -1 else left - cs.length from rfl)
  by_cases hlt : left - cs.length < 0
  · go_enter Try.func39, Try.ntmps39
    go_wp2_with fail
    go_ret
    exact ⟨ret_int (by rw [HF.out, if_pos (by omega)]), (by repeat (first | exact ext_refl _ | (with_reducible assumption) | refine ext_ext' ?_ _ | refine ext_alloc' ?_ _ | refine ext_drew' ?_))⟩
  · go_enter Try.func39, Try.ntmps39
    go_wp2_with fail
    go_ret
    exact ⟨ret_int (by rw [HF.out, if_neg (by omega)]), (by repeat (first | exact ext_refl _ | (with_reducible assumption) | refine ext_ext' ?_ _ | refine ext_alloc' ?_ _ | refine ext_drew' ?_))⟩
theorem szLeftI_neg {n : Nat} {left : Int} (h0 : 0 ≤ left) : szLeftI n left < 0 ∨ 0 ≤ szLeftI n left ∧ szLeftI n left ≤ left ∧ (n : Int) ≤ left := by
  unfold szLeftI
  split <;> omega
theorem szLeftI_m1 {n : Nat} {left : Int} (h : szLeftI n left < 0) (h0 : 0 ≤ left) : szLeftI n left = -1 := by
  unfold szLeftI at h ⊢
  split at h <;> rename_i hh
  · rw [if_pos hh]
  · omega
end
section
open Go.ChangeShapes Go.WideShapes Go.ChangeAt Go.RowKit
def RegionAt (w : World) (v : Value) (r : Int × List Int) : Prop := ∃ u, v = .agg #[.int .i64 r.1, u] ∧ IntsAt w u r.2
theorem szRegion_any (wd : Int) (rows : List Int) (v : Value) (left : Int) (w : World) (h : IntsAt w v rows) (h1 : 0 ≤ left) (h2 : left ≤ 1048576) :
    Calls Try.prog 6 #[.agg #[.int .i64 wd, v], .int .i64 left] w fun e w' => e = .returned (.int .i64 (szLeftI rows.length left)) ∧ ∃ x, w' = ext w x := by
  rcases szLeftI_neg (n := rows.length) h1 with hneg | hpos
  · have HM := Lib.hid (szLeftI_m1 hneg h1)
    go_enter Try.func6, Try.ntmps6
    go_wp2_with (first | (go_at_call 39; refine (szIntS_any _ _ _ _ (by first | (with_reducible assumption) | (with_reducible exact IntsAt.mono (by assumption) (bel_of_ext (by repeat (first | exact ext_refl _ | (with_reducible assumption) | refine ext_ext' ?_ _ | refine ext_alloc' ?_ _ | refine ext_drew' ?_))))) h1 h2).mono ?_; rintro e w' ⟨rfl, xe, rfl⟩))
    go_ret
    exact ⟨ret_int (by rw [HM.out]), (by repeat (first | exact ext_refl _ | (with_reducible assumption) | refine ext_ext' ?_ _ | refine ext_alloc' ?_ _ | refine ext_drew' ?_))⟩
  · have hp : ¬ szLeftI rows.length left < 0 := by omega
    go_enter Try.func6, Try.ntmps6
    go_wp2_with (first | (go_at_call 39; refine (szIntS_any _ _ _ _ (by first | (with_reducible assumption) | (with_reducible exact IntsAt.mono (by assumption) (bel_of_ext (by repeat (first | exact ext_refl _ | (with_reducible assumption) | refine ext_ext' ?_ _ | refine ext_alloc' ?_ _ | refine ext_drew' ?_))))) h1 h2).mono ?_; rintro e w' ⟨rfl, xe, rfl⟩))
    go_ret
    exact ⟨rfl, (by repeat (first | exact ext_refl _ | (with_reducible assumption) | refine ext_ext' ?_ _ | refine ext_alloc' ?_ _ | refine ext_drew' ?_))⟩
theorem toRegion_any (wd : Int) (rows : List Int) (v : Value) (w : World) (h : IntsAt w v rows) (hs : rows.length ≤ 1099511627776) :
    Calls Try.prog 8 #[.agg #[.int .i64 wd, v]] w fun e w' => ∃ v', e = .returned (.agg #[.int .i64 wd, v']) ∧ (∃ x, w' = ext w x) ∧ OwnI w' w.heap.size v' rows := by
  go_enter Try.func8, Try.ntmps8
  go_wp2_with (first | (go_at_call 44; refine (toIntS_any _ _ _ (by first | (with_reducible assumption) | (with_reducible exact IntsAt.mono (by assumption) (bel_of_ext (by repeat (first | exact ext_refl _ | (with_reducible assumption) | refine ext_ext' ?_ _ | refine ext_alloc' ?_ _ | refine ext_drew' ?_))))) hs).mono ?_; rintro e w' ⟨u, rfl, ⟨xe, rfl⟩, own⟩; obtain ⟨ua, uc, rfl⟩ := own_slice own))
  refine bodyPost_ret (v := .agg #[.int .i64 wd, .slice ua rows.length uc]) (by simp [results, Try.results8, go_sem]) rfl ⟨_, rfl, (by repeat (first | exact ext_refl _ | (with_reducible assumption) | refine ext_ext' ?_ _ | refine ext_alloc' ?_ _ | refine ext_drew' ?_)), own_base (own_move own (by simp) (Nat.le_refl _)) (by simp; omega)⟩
def eqReg (wd : Int) (rows : List Int) (wd' : Int) (rows' : List Int) : Bool := (wd == wd') && eqInts rows rows'
theorem eqReg_self (wd : Int) (rows : List Int) : eqReg wd rows wd rows = true := by simp [eqReg, eqInts_self]
theorem eqRegion_any (wd wd' : Int) (rows rows' : List Int) (v v' : Value) (w : World) (h : IntsAt w v rows) (h' : IntsAt w v' rows') :
    Calls Try.prog 11 #[.agg #[.int .i64 wd, v], .agg #[.int .i64 wd', v']] w fun e w' => e = .returned (.bool (eqReg wd rows wd' rows')) ∧ ∃ x, w' = ext w x := by
  have HF := Lib.hid (show eqReg wd rows wd' rows' = ((wd == wd') && eqInts rows rows') from rfl)
  cases h1 : wd == wd'
  · have h1' : (wd != wd') = true := by rw [bne, h1]; rfl
    go_enter Try.func11, Try.ntmps11
    go_wp2_with fail
    go_ret
    exact ⟨ret_bool (by rw [HF.out, h1]; rfl), (by repeat (first | exact ext_refl _ | (with_reducible assumption) | refine ext_ext' ?_ _ | refine ext_alloc' ?_ _ | refine ext_drew' ?_))⟩
  · have h1' : (wd != wd') = false := by rw [bne, h1]; rfl
    cases h2 : eqInts rows rows'
    all_goals
      go_enter Try.func11, Try.ntmps11
      go_wp2_with (first | (go_at_call 51; refine (eqIntS_any _ _ _ _ _ (by first | (with_reducible assumption) | (with_reducible exact IntsAt.mono (by assumption) (bel_of_ext (by repeat (first | exact ext_refl _ | (with_reducible assumption) | refine ext_ext' ?_ _ | refine ext_alloc' ?_ _ | refine ext_drew' ?_))))) (by first | (with_reducible assumption) | (with_reducible exact IntsAt.mono (by assumption) (bel_of_ext (by repeat (first | exact ext_refl _ | (with_reducible assumption) | refine ext_ext' ?_ _ | refine ext_alloc' ?_ _ | refine ext_drew' ?_)))))).mono ?_; rintro e w' ⟨rfl, xe, rfl⟩))
      go_ret
      exact ⟨ret_bool (by rw [HF.out, h1, h2]; rfl), (by repeat (first | exact ext_refl _ | (with_reducible assumption) | refine ext_ext' ?_ _ | refine ext_alloc' ?_ _ | refine ext_drew' ?_))⟩
section
variable {H : Type} {enc : TypeId × Value → H} {W : World} {base : Nat}
set_option maxRecDepth 10000 in
open Go.Joins in
theorem open_RegionAt {v : Value} {d : DataW H} {p : List MemPlace} (h : DataW.Trod enc Try.prog W 0 (fun _ => true) true 24 v d p) (hv : Value.okWide Try.prog W .any base 24 v) :
    ∃ r, RegionAt W v r ∧ (Lit.int .i64 r.1).wf = true ∧ ∀ n ∈ r.2, (Lit.int .i64 n).wf = true := by
  obtain ⟨c0, c1, y0, y1, m, rfl, _, _, hy0, hy1⟩ := open_agg2 Try.underlying24 (by kernel_rfl) (by kernel_rfl) hv h
  obtain ⟨a, e0, _, wa⟩ := DataW.trod_int Try.underlying3 hy0
  simp only [List.cons.injEq, and_true] at e0
  subst e0
  obtain ⟨zs, hz, hw⟩ := IntsAt_trod hy1
  exact ⟨(a, zs), ⟨_, rfl, hz⟩, wa, hw⟩
end
end
section
open Go.ChangeShapes Go.WideShapes Go.ChangeAt Go.RowKit
def vcAt (vs : List Value) (k : Nat) : Value := vs.getD k undef
def pAt (pss : List (List (Int × Int))) (k : Nat) : List (Int × Int) := pss.getD k []
def PiecesAt (w : World) (v : Value) (pss : List (List (Int × Int))) : Prop :=
  ∃ vs : List Value, Sl w 1 v pss.length vs ∧ ∀ k, k < pss.length → CellsAt w (vcAt vs k) (pAt pss k)
theorem PiecesAt.mono {w w' : World} {v : Value} {pss : List (List (Int × Int))} (h : PiecesAt w v pss) (hb : Below w.heap.size w w') : PiecesAt w' v pss := by
  obtain ⟨vs, h1, h2⟩ := h
  exact ⟨vs, h1.mono hb, fun k hk => (h2 k hk).mono hb⟩
theorem infoCells : (Try.prog.info? 39).map (fun i => i.size) = some 1 := by kernel_rfl
theorem infoCells3 : (Try.prog.info? 39).map (fun i => (i.zero, i.size, i.bytes)) = some (some (.slice none 0 0), 1, 24) := by kernel_rfl
theorem elemCells : Elem Try.prog 43 39 1 24 (.slice none 0 0) := ⟨Try.underlying43, infoCells3, rfl, by decide⟩
theorem PiecesAt.opn {w : World} {v : Value} {pss : List (List (Int × Int))} (h : PiecesAt w v pss) :
    ∃ a b o cap vs, v = .slice a pss.length cap ∧ pss.length ≤ cap ∧ pss.length ≤ 9223372036854775807 ∧ cap ≤ 9223372036854775807 ∧ ∀ k, k < pss.length → Old w b ∧ (∀ w', (Instr.indexAt 43 (.slice a pss.length cap) (.int .i64 k)).run Try.prog w' = .ok (.pointer (some ⟨b, o + k, none⟩)) w') ∧
      w.cell? ⟨b, o + k, none⟩ = some (vcAt vs k) ∧ CellsAt w (vcAt vs k) (pAt pss k) := by
  obtain ⟨vs, h0, hr⟩ := h
  have hlen : vs.length = pss.length := by obtain ⟨_, _, _, _, _, _, _, h3, _⟩ := h0; simpa using h3
  obtain ⟨a, b, o, cap, rfl, h1, h2, h3, h4⟩ := Sl.idx h0 Try.underlying43 infoCells
  refine ⟨a, b, o, cap, vs, rfl, h1, h2, h3, fun k hk => ?_⟩
  obtain ⟨g1, g2, g3⟩ := h4 k hk
  refine ⟨g1, fun w' => by have := g2 w'; rwa [Nat.mul_one] at this, ?_, hr k hk⟩
  have := g3 0 (by omega)
  rw [Nat.mul_one, Nat.add_zero, Nat.add_zero] at this
  rw [this, vcAt, List.getD, List.getElem?_eq_getElem (by omega)]
  rfl
def rowsC (vs : List Value) (pss : List (List (Int × Int))) : List Row := List.zipWith rowC vs pss
theorem rowsC_snoc (vs : List Value) (pss : List (List (Int × Int))) (v : Value) (cs : List (Int × Int)) (h : vs.length = pss.length) : rowsC (vs ++ [v]) (pss ++ [cs]) = rowsC vs pss ++ [rowC v cs] := by
  simp [rowsC, List.zipWith_append h]
theorem rowsC_mem {vs : List Value} {pss : List (List (Int × Int))} {k : Nat} (h : vs.length = pss.length) (hk : k < pss.length) : rowC (vcAt vs k) (pAt pss k) ∈ rowsC vs pss := by
  have h1 : k < vs.length := by omega
  have : (rowsC vs pss)[k]? = some (rowC (vcAt vs k) (pAt pss k)) := by
    simp [rowsC, List.getElem?_zipWith, vcAt, pAt, List.getD, h1, hk]
  exact List.mem_of_getElem? this
def grpP (v : Value) (vs : List Value) (pss : List (List (Int × Int))) : List Row := ⟨v, 39, 1, pss.length, vs⟩ :: rowsC vs pss
theorem Held.pieces {W0 w : World} {L : List Row} {v : Value} {vs : List Value} {pss : List (List (Int × Int))} (H : Held W0 w (grpP v vs pss ++ L)) (hl : vs.length = pss.length) : PiecesAt w v pss :=
  ⟨vs, Held.sl H (List.mem_append_left _ List.mem_cons_self), fun _ hk => Held.sl H (List.mem_append_left _ (List.mem_cons_of_mem _ (rowsC_mem hl hk)))⟩
theorem setC_at {α : Type} (vs : List α) (n k : Nat) (u z : α) (hl : vs.length = k) (hk : k < n) : (vs ++ List.replicate (n - k) z).set k u = (vs ++ [u]) ++ List.replicate (n - (k + 1)) z := by
  rw [show n - k = (n - (k + 1)) + 1 by omega, List.replicate_succ, List.set_append_right _ _ (by omega), hl, Nat.sub_self, List.set_cons_zero]
  simp
theorem cellC_hd (vs : List Value) (n k : Nat) (z : Value) (hl : vs.length = k) (hk : k < n) : (vs ++ List.replicate (n - k) z)[k]? = some z := by
  rw [List.getElem?_append_right (by omega), hl, Nat.sub_self, List.getElem?_replicate, if_pos (by omega)]
def eqPieces (a b : List (List (Int × Int))) : Bool := decide (a.length = b.length) && allTo (fun k => eqCells (pAt a k) (pAt b k)) a.length
theorem eqPieces_self (a : List (List (Int × Int))) : eqPieces a a = true := by simp [eqPieces, allTo_true, eqCells_self]
def sumLenC (pss : List (List (Int × Int))) : Nat → Nat := iter (fun i n => n + (pAt pss i).length) 0
theorem sumLenC_succ (pss : List (List (Int × Int))) (j : Nat) : sumLenC pss (j + 1) = sumLenC pss j + (pAt pss j).length := rfl
def totalC (pss : List (List (Int × Int))) : Nat := sumLenC pss pss.length
def piecesB (pss : List (List (Int × Int))) : Bool := allTo (fun k => shapeB (pAt pss k)) pss.length && btw pss.length 1 5
theorem piecesB_no {pss : List (List (Int × Int))} {k : Nat} (h : k < pss.length) (hk : shapeB (pAt pss k) = false) : piecesB pss = false := by simp [piecesB, allTo_false (p := fun k => shapeB (pAt pss k)) h hk]
theorem specIsShape_b (cs : List (Int × Int)) (v : Value) (b : Bool) (hb : shapeB cs = b) (w : World) (h : CellsAt w v cs) :
    Calls Try.prog 82 #[v] w fun e w' => e = .returned (.bool b) ∧ ∃ x, w' = ext w x := hb ▸ specIsShape_any cs v w h
theorem specPieces_any (pss : List (List (Int × Int))) (v : Value) (w : World) (h : PiecesAt w v pss) :
    Calls Try.prog 60 #[v] w fun e w' => e = .returned (.bool (piecesB pss)) ∧ ∃ x, w' = ext w x := by
  obtain ⟨a, b, o, cap, us, rfl, hc1, hc2, hc3, hcell⟩ := h.opn
  go_enter Try.func60, Try.ntmps60
  go_wp2_with fail
  go_loopw [3] (fun i wr => ∃ k : Nat, k ≤ pss.length ∧ i = .int .i64 k ∧ allTo (fun k => shapeB (pAt pss k)) k = true ∧ ∃ x, wr = ext w x) (fun i _ => pss.length - (intOf i).toNat)
  case atStart => exact ⟨0, Nat.zero_le _, rfl, rfl, (by repeat (first | exact ext_refl _ | (with_reducible assumption) | refine ext_ext' ?_ _ | refine ext_alloc' ?_ _ | refine ext_drew' ?_))⟩
  case round =>
    obtain ⟨k, hk, rfl, hall, x, rfl⟩ := hrel
    have HA := Lib.hid hall
    clear hall
    by_cases hlt : k < pss.length
    · obtain ⟨hb, hi, hck, hri⟩ := hcell k hlt
      obtain ⟨_, _, _, _, e1, _⟩ := hri.opn
      rw [e1] at hck hri
      clear hcell e1
      cases hq : shapeB (pAt pss k)
      all_goals
        go_wp2_with (first | (go_at_call 82; refine (specIsShape_b _ _ _ hq _ (by first | (with_reducible assumption) | (with_reducible exact IntsAt.mono (by assumption) (bel_of_ext (by repeat (first | exact ext_refl _ | (with_reducible assumption) | refine ext_ext' ?_ _ | refine ext_alloc' ?_ _ | refine ext_drew' ?_)))) | (with_reducible exact CellsAt.mono (by assumption) (bel_of_ext (by repeat (first | exact ext_refl _ | (with_reducible assumption) | refine ext_ext' ?_ _ | refine ext_alloc' ?_ _ | refine ext_drew' ?_)))) | (with_reducible exact PiecesAt.mono (by assumption) (bel_of_ext (by repeat (first | exact ext_refl _ | (with_reducible assumption) | refine ext_ext' ?_ _ | refine ext_alloc' ?_ _ | refine ext_drew' ?_)))))).mono ?_; rintro e w' ⟨rfl, xe, rfl⟩))
      · go_ret
        exact ⟨ret_bool (piecesB_no hlt hq).symm, (by repeat (first | exact ext_refl _ | (with_reducible assumption) | refine ext_ext' ?_ _ | refine ext_alloc' ?_ _ | refine ext_drew' ?_))⟩
      · go_roundw
        case rel => exact ⟨k + 1, hlt, int_succ k, allTo_succ HA.out hq, (by repeat (first | exact ext_refl _ | (with_reducible assumption) | refine ext_ext' ?_ _ | refine ext_alloc' ?_ _ | refine ext_drew' ?_))⟩
        case measure => simp [intOf]; omega
    · have HK := Lib.hid (show k = pss.length by omega)
      go_wp2_with (first | (go_at_call 67; refine (l1In_any _ _ _ _).mono ?_; rintro e w' ⟨rfl, xe, rfl⟩))
      go_ret
      exact ⟨ret_bool (by rw [piecesB, ← HK.out, HA.out]; rfl), (by repeat (first | exact ext_refl _ | (with_reducible assumption) | refine ext_ext' ?_ _ | refine ext_alloc' ?_ _ | refine ext_drew' ?_))⟩
end
section
open Go.ChangeShapes Go.WideShapes Go.ChangeAt Go.RowKit
theorem slice_to_g {P : Program} {t e sz : Nat} (ut : P.underlying t = some (.slice e)) (hi : (P.info? e).map (fun i => i.size) = some sz) (a : Option Addr) (n cap k : Nat) (h : k ≤ cap) (w : World) :
    (Instr.slice t (.slice a n cap) none (some (.int .i64 k)) none).run P w = .ok (.slice a k cap) w := by
  obtain ⟨i, h1, h2⟩ := Option.map_eq_some_iff.1 hi
  have e : (fun x : Addr => x.add 0) = id := by funext x; simp [Addr.add]
  simp [Instr.slice, run_underlying ut, Instr.sliceBounds, Instr.sliceBound, asIntOf, h, sizeOf, typeInfo, h1, e]
theorem Sl.take {w : World} {sz : Nat} {a : Option Addr} {n cap : Nat} {cs : List Value} (h : Sl w sz (.slice a n cap) n cs) (k : Nat) (hk : k ≤ n) : Sl w sz (.slice a k cap) k (cs.take (k * sz)) := by
  obtain ⟨a', b, o, cap', e, h1, h2, h3, h4, h5⟩ := h
  simp only [Value.slice.injEq] at e
  obtain ⟨rfl, _, rfl⟩ := e
  have hm : k * sz ≤ n * sz := Nat.mul_le_mul_right _ hk
  refine ⟨a, b, o, cap, rfl, by omega, h2, by rw [List.length_take]; omega, fun hp => h4 (by omega), fun i hi => ?_⟩
  rw [List.length_take] at hi
  rw [List.getElem?_take, if_pos (by omega)]
  exact h5 i (by omega)
theorem Sl.drop {w : World} {sz : Nat} {a : Option Addr} {n cap : Nat} {cs : List Value} (h : Sl w sz (.slice a n cap) n cs) (k : Nat) (hk : k ≤ n) : Sl w sz (.slice (a.map fun x => x.add (k * sz)) (n - k) (cap - k)) (n - k) (cs.drop (k * sz)) := by
  obtain ⟨a', b, o, cap', e, h1, h2, h3, h4, h5⟩ := h
  simp only [Value.slice.injEq] at e
  obtain ⟨rfl, _, rfl⟩ := e
  have hm : k * sz ≤ n * sz := Nat.mul_le_mul_right _ hk
  refine ⟨_, b, o + k * sz, cap - k, rfl, by omega, by omega, by rw [List.length_drop, h3, Nat.sub_mul], fun hp => ?_, fun i hi => ?_⟩
  · obtain ⟨ha, hb⟩ := h4 (by omega)
    subst ha
    exact ⟨by simp [Addr.add], hb⟩
  · rw [List.length_drop] at hi
    rw [List.getElem?_drop, Nat.add_assoc]
    exact h5 (k * sz + i) (by omega)
theorem slice_from_g {P : Program} {t e sz : Nat} (ut : P.underlying t = some (.slice e)) (hi : (P.info? e).map (fun i => i.size) = some sz) {w0 : World} {a : Option Addr} {n cap : Nat} {cs : List Value} (h : Sl w0 sz (.slice a n cap) n cs) (k : Nat) (hk : k ≤ n) :
    ∃ a', (∀ w, (Instr.slice t (.slice a n cap) (some (.int .i64 k)) none none).run P w = .ok (.slice a' (n - k) (cap - k)) w) ∧ Sl w0 sz (.slice a' (n - k) (cap - k)) (n - k) (cs.drop (k * sz)) := by
  obtain ⟨i, h1, h2⟩ := Option.map_eq_some_iff.1 hi
  subst h2
  have hd := h.drop k hk
  obtain ⟨_, _, _, cap', e, hc, _, hcs, _⟩ := h
  simp only [Value.slice.injEq] at e
  obtain ⟨_, _, rfl⟩ := e
  by_cases hkc : k < cap
  · exact ⟨_, fun w => by simp [Instr.slice, run_underlying ut, Instr.sliceBounds, Instr.sliceBound, asIntOf, hk, sizeOf, typeInfo, h1]; omega, hd⟩
  · obtain rfl : k = cap := by omega
    obtain rfl : n = k := by omega
    refine ⟨a, fun w => by simp [Instr.slice, run_underlying ut, Instr.sliceBounds, Instr.sliceBound, asIntOf, sizeOf, typeInfo, h1], ?_⟩
    rw [Nat.sub_self, List.drop_of_length_le (by omega)]
    exact ⟨a, 0, 0, 0, rfl, Nat.le_refl _, by simp [maxLen], by simp, fun h => absurd h (by omega), fun i hi => by simp at hi⟩
theorem forkE {P : Program} {ops : Array Oper} {Q : Exit → Act → World → Prop} {S : World → Prop} {i j : Nat} {oi oj : Oper} {fuel : Nat} {listed : Array Bool} {a : Act} {w : World} (hi : ops[i]? = some oi) (hj : ops[j]? = some oj)
    (hr : Region.ready .any ops listed = [i, j]) (hwi : Region.wanted oi (yielded ops a.tmps) = true) (hwj : Region.wanted oj (yielded ops a.tmps) = true)
    (h1 : ∀ K' : Act → World → Prop, Hid (∀ a w, S w → wpAnyH P .any ops Q S fuel (listed.setIfInBounds i true) a w → K' a w) → Oper.wp P oi a w K' Q)
    (h2 : ∀ K' : Act → World → Prop, Hid (∀ a w, S w → wpAnyH P .any ops Q S fuel (listed.setIfInBounds j true) a w → K' a w) → Oper.wp P oj a w K' Q) : wpAnyH P .any ops Q S (fuel + 1) listed a w :=
  wpAnyH_all hr (by simp) fun q hq => by
    have hq' : q = i ∨ q = j := by simpa using hq
    rcases hq' with rfl | rfl
    · exact wpOp_step hi (fun K' hK => by rw [if_pos hwi]; exact h1 K' (fun a w hS hW => hK a w ⟨hS, hW⟩))
    · exact wpOp_step hj (fun K' hK => by rw [if_pos hwj]; exact h2 K' (fun a w hS hW => hK a w ⟨hS, hW⟩))
end
section
open Go.ChangeShapes Go.WideShapes Go.ChangeAt Go.RowKit
theorem Held.sub {W0 w : World} {L L' : List Row} (H : Held W0 w L) (h : L'.Sublist L) : Held W0 w L' := ⟨H.bel, fun r hr => H.own r (h.subset hr), H.apart.sublist h⟩
def setsL (A : List Value) : Nat → List Value → List Value
  | _, [] => A
  | o, c :: r => setsL (A.set o c) (o + 1) r
theorem setsL_eq : ∀ (cs A : List Value) (o : Nat), o + cs.length ≤ A.length → setsL A o cs = splice A o cs
  | [], A, o, h => by simp [setsL, splice]
  | c :: r, A, o, h => by
    simp only [List.length_cons] at h
    rw [setsL, setsL_eq r (A.set o c) (o + 1) (by rw [List.length_set]; omega)]
    simp only [splice, List.length_cons]
    have e1 : (A.set o c).take (o + 1) = A.take o ++ [c] := by
      rw [List.take_succ_eq_append_getElem (by rw [List.length_set]; omega), List.take_set_of_le (Nat.le_refl _)]
      simp
    have e2 : (A.set o c).drop (o + 1 + r.length) = A.drop (o + (r.length + 1)) := by
      rw [List.drop_set_of_lt (by omega)]
      congr 1; omega
    rw [e1, e2]; simp
theorem Held.sets {W0 : World} {L : List Row} {g n cap e : Nat} : ∀ (cs cur : List Value) (o : Nat) (w : World), Held W0 w (⟨.slice (some ⟨g, 0, none⟩) n cap, e, 1, n, cur⟩ :: L) → Held W0 (w.setCells g o cs) (⟨.slice (some ⟨g, 0, none⟩) n cap, e, 1, n, setsL cur o cs⟩ :: L)
  | [], cur, o, w, H => H
  | c :: r, cur, o, w, H => by
    have hst := (H.own _ List.mem_cons_self).stored o c
    have H2 := H.write hst.2 hst.1
    exact Held.sets r _ (o + 1) _ H2
theorem opwp_copy_held {P : Program} {W0 : World} {w : World} {L : List Row} {o : Oper} {a : Act} {K : Act → World → Prop} {Q : Exit → Act → World → Prop} (d s : Operand) (dT sT : TypeId)
    (ho : o.op = .call { callee := .builtin .copy, args := #[d, s], argTypes := #[dT, sT] }) (elem : TypeId) (hu : P.underlying dT = some (.slice elem)) (hsz : (P.info? elem).map (·.size) = some 1)
    {g n cap e : Nat} {cur : List Value} (H : Held W0 w (⟨.slice (some ⟨g, 0, none⟩) n cap, e, 1, n, cur⟩ :: L))
    {dp sp : Option Addr} {dLen dCap sLen sCap : Nat} (hd : a.eval d = .slice dp dLen dCap) (hs : a.eval s = .slice sp sLen sCap) (off : Nat) (cs : List Value) (hn : cs.length = Nat.min sLen dLen)
    (hpos : 0 < cs.length → dp = some ⟨g, off, none⟩ ∧ ∃ ad, sp = some ad ∧ ∀ j v, cs[j]? = some v → w.cell? (ad.add j) = some v)
    (hfit : off + cs.length ≤ n) (h1 : ∀ v ∈ cs, v.oneCell' = true)
    (h : ∀ w', Held W0 w' (⟨.slice (some ⟨g, 0, none⟩) n cap, e, 1, n, splice cur off cs⟩ :: L) → K (a.put o.dst (goInt cs.length)) w') : Oper.wp P o a w K Q := by
  have hown := H.own _ List.mem_cons_self
  have hcl : cur.length = n := by have := hown.1; simpa using this
  by_cases h0 : cs.length = 0
  · obtain rfl : cs = [] := List.eq_nil_of_length_eq_zero h0
    have hrun := run_copy_none (P := P) w dT sT o.type elem dp sp dLen dCap sLen sCap hu hsz (by simpa using hn.symm)
    unfold Oper.wp
    simp [execOp, ho, resolve, invoke, builtin, hd, hs, hrun, Result.andThen]
    exact h w (by simpa [splice] using H)
  · obtain ⟨rfl, ad, rfl, hsrc⟩ := hpos (by omega)
    have hrun := run_copy_cells (P := P) w dT sT o.type elem g off dLen dCap ad sLen sCap cs hu hsz hn hsrc
      (fun j hj => by
        rw [hown.cellAt (off + j) (by show off + j < n * 1; omega)]
        show (cur[off + j]?).isSome = true
        rw [List.getElem?_eq_getElem (by omega)]; rfl)
      (fun j hj => hown.frozenAt _) h1
    unfold Oper.wp
    simp [execOp, ho, resolve, invoke, builtin, hd, hs, hrun, Result.andThen]
    have H2 := Held.sets cs cur off w H
    rw [setsL_eq cs cur off (by omega)] at H2
    exact h _ H2
theorem cut_from {P : Program} {t e : Nat} (ut : P.underlying t = some (.slice e)) (hi : (P.info? e).map (fun i => i.size) = some 1) (g n cap k : Nat) (hk : k ≤ n) (hc : n ≤ cap) :
    ∃ dp, (∀ w, (Instr.slice t (.slice (some ⟨g, 0, none⟩) n cap) (some (.int .i64 k)) none none).run P w = .ok (.slice dp (n - k) (cap - k)) w) ∧ (k < cap → dp = some ⟨g, k, none⟩) := by
  obtain ⟨i, h1, h2⟩ := Option.map_eq_some_iff.1 hi
  by_cases hkc : k < cap
  · exact ⟨some ⟨g, k, none⟩, fun w => by simp [Instr.slice, run_underlying ut, Instr.sliceBounds, Instr.sliceBound, asIntOf, hk, sizeOf, typeInfo, h1, h2, Addr.add, show cap ≠ k by omega]; exact fun h => h.symm, fun _ => rfl⟩
  · obtain rfl : k = cap := by omega
    obtain rfl : n = k := by omega
    exact ⟨some ⟨g, 0, none⟩, fun w => by simp [Instr.slice, run_underlying ut, Instr.sliceBounds, Instr.sliceBound, asIntOf, sizeOf, typeInfo, h1], fun h => absurd h (by omega)⟩
end
end Go.Proofs.Ytchcepihmphdmaa
