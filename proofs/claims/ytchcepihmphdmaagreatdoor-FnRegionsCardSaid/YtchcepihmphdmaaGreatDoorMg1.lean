/- Part 1 of a proof: base, sl, held, ints, copyints, marks, hold2, boxes, box2, tabs, between, cells, copycells, rowc, opens, szints, copyregion, slsl, putc, ins, shape, shp, slaid, slsort, slslice, sortcells, corners. -/
import Derived.Test.YtchcepihmphdmaaGreatDoorRows
import Derived.WalkKit
import Derived.ProofKit
import Derived.OpenShut
import Derived.BigQuiet
import Derived.Lib.Hide
import Derived.Deep.QuietTactic
import Derived.Outline
import Derived.OrdersHeld
import Derived.Laws.AppendOwnNone
import Derived.Deep.AppendLies
import Derived.Lib.SmallJoins
import Derived.Lib.ReflectliteSwap
import Derived.Sort.LotA
import Derived.Laws.Externs
import Derived.Shelf.Strings.Builder1
import Derived.Shelf.Strings.Builder2
import Derived.Shelf.Strings.OnBuilder
import Derived.Shelf.Small.Bits
import Derived.Shelf.Small.Wraps
import Derived.Shelf.Strings.BuilderF
import Derived.Shelf.Strings.BuilderK
import Derived.Shelf.Utf8.RuneCount
import Derived.Shelf.Strings.Builder2Cap
import Derived.Shelf.Strconv.Itoa0
import Derived.Shelf.Strings.Search1
import Derived.Shelf.Strings.Search2
import Derived.Shelf.Strings.Search3
import Derived.Shelf.Strings.Count
import Derived.Shelf.LaysM
import Derived.Shelf.Strings.Shaped
import Derived.Shelf.Sort.Plain
import Derived.Shelf.GgSortFunc.Tiny
import Derived.Shelf.Strings.Split
import Derived.Shelf.Strings.SplitShaped
import Derived.Shelf.Unicode.Decode
import Derived.Shelf.Strings.RuneCount
import Derived.Shelf.Strings.Explode
import Derived.Shelf.Unicode.DecodeSlow
import Derived.Shelf.Unicode.DecodeAny
import Derived.Shelf.Strings.BuilderCap
import Derived.Shelf.Slices.SearchI
import Derived.Shelf.Slices.In.SortNone
import Derived.Shelf.Slices.In.SortNone2
import Derived.Sort.WalkA
namespace Go.Proofs.YtchcepihmphdmaaGreatDoor
set_option linter.unusedVariables false
section
open Go.ChangeShapes Go.WideShapes Go.ChangeAt Go.RowKit
/-- New blocks behind those of a world, and another count of draws. -/
structure Ext where
  bs : Array Obj
  d : Nat
instance : Nonempty Ext := ⟨⟨#[], 0⟩⟩
def ext (w : World) (x : Ext) : World := { w with heap := w.heap ++ x.bs, drawn := x.d }
/-- block n lies in w -/
class Old (w : World) (n : Nat) : Prop where
  lt : n < w.heap.size
/-- w has n blocks -/
class SizeIs (w : World) (n : Nat) : Prop where
  eq : w.heap.size = n
section
variable (w : World) (x y : Ext)
theorem size_ext : (ext w x).heap.size = w.heap.size + x.bs.size := by simp [ext]
theorem ext_ext : ext (ext w x) y = ext w ⟨x.bs ++ y.bs, y.d⟩ := by simp [ext, Array.append_assoc]
@[go_sem] theorem drew_ext : (ext w x).drew = ext w ⟨x.bs, x.d + 1⟩ := rfl
@[go_sem] theorem drawn_ext : ({ ext w x with drawn := (ext w x).drawn + 1 } : World) = ext w ⟨x.bs, x.d + 1⟩ := rfl
@[go_sem] theorem tape_ext : (ext w x).tape = w.tape := rfl
@[go_sem] theorem os_ext : (ext w x).os = w.os := rfl
@[go_sem] theorem output_ext : (ext w x).output = w.output := rfl
theorem lt_ext {n : Nat} (h : n < w.heap.size) : n < (ext w x).heap.size := by rw [size_ext]; omega
theorem lt_alloc {n : Nat} (o : Obj) (h : n < w.heap.size) : n < (w.alloc o).heap.size := by rw [World.size_alloc]; omega
instance old_ext {n : Nat} [h : Old w n] : Old (ext w x) n := ⟨lt_ext w x h.lt⟩
instance old_alloc {n : Nat} (o : Obj) [h : Old w n] : Old (w.alloc o) n := ⟨lt_alloc w o h.lt⟩
instance old_new (o : Obj) {n : Nat} [h : SizeIs w n] : Old (w.alloc o) n := ⟨by rw [World.size_alloc, h.eq]; omega⟩
instance size_new (o : Obj) {n : Nat} [h : SizeIs w n] : SizeIs (w.alloc o) (n + 1) := ⟨by rw [World.size_alloc, h.eq]⟩
instance size_set {n : Nat} (a : Addr) (v : Value) [h : SizeIs w n] : SizeIs (w.setCell a v) n := ⟨by rw [World.size_setCell, h.eq]⟩
instance size_drew {n : Nat} [h : SizeIs w n] : SizeIs w.drew n := ⟨h.eq⟩
instance (priority := low) size_self : SizeIs w w.heap.size := ⟨rfl⟩
instance old_drew {n : Nat} [h : Old w n] : Old w.drew n := ⟨h.lt⟩
instance old_set {n : Nat} (a : Addr) (v : Value) [h : Old w n] : Old (w.setCell a v) n := ⟨by rw [World.size_setCell]; exact h.lt⟩
theorem heap_ext {n : Nat} (h : n < w.heap.size) : (ext w x).heap[n]? = w.heap[n]? := by
  simp [ext, Array.getElem?_append_left h]
@[go_sem] theorem cell?_ext {n i : Nat} [h : Old w n] : (ext w x).cell? ⟨n, i, none⟩ = w.cell? ⟨n, i, none⟩ := by
  simp only [World.cell?, heap_ext w x h.lt]
@[go_sem] theorem cell?_old {n i : Nat} (o : Obj) [h : Old w n] : (w.alloc o).cell? ⟨n, i, none⟩ = w.cell? ⟨n, i, none⟩ := World.cell?_alloc_past o n i h.lt
@[go_sem] theorem frozen?_old {n i : Nat} (o : Obj) [h : Old w n] : (w.alloc o).frozen? ⟨n, i, none⟩ = w.frozen? ⟨n, i, none⟩ := World.frozen?_alloc_past o n i h.lt
@[go_sem] theorem setCell_old {n i : Nat} (o : Obj) (v : Value) [h : Old w n] : (w.alloc o).setCell ⟨n, i, none⟩ v = (w.setCell ⟨n, i, none⟩ v).alloc o := World.setCell_alloc_past o n i v h.lt
@[go_sem] theorem frozen?_ext {n i : Nat} [h : Old w n] : (ext w x).frozen? ⟨n, i, none⟩ = w.frozen? ⟨n, i, none⟩ := by
  simp only [World.frozen?, heap_ext w x h.lt]
@[go_sem] theorem shape?_ext {n : Nat} [h : Old w n] : (ext w x).shape? n = w.shape? n := by
  simp only [World.shape?, heap_ext w x h.lt]
@[go_sem] theorem setCell_ext {n i : Nat} (v : Value) [ho : Old w n] : (ext w x).setCell ⟨n, i, none⟩ v = ext (w.setCell ⟨n, i, none⟩ v) x := by
  have h := ho.lt
  simp only [World.setCell, ext]
  congr 1
  apply Array.ext_getElem?
  intro k
  simp only [Array.getElem?_modify, Array.getElem?_append, Array.size_modify]
  by_cases hk : n = k
  · subst hk; simp [h]
  · simp [hk]
end
theorem ext_zero (w : World) : w = ext w ⟨#[], w.drawn⟩ := by simp [ext]
theorem ext_alloc (w : World) (o : Obj) : ∃ x, w.alloc o = ext w x := ⟨⟨#[o], w.drawn⟩, by simp only [ext, Array.append_singleton]; rfl⟩
theorem Below_ext (w : World) (x : Ext) : Below w.heap.size w (ext w x) := ⟨rfl, rfl, rfl, by simp [size_ext], fun k hk => heap_ext w x hk⟩
theorem ext_of {w w' : World} (h : Below w.heap.size w w') : ∃ x, w' = ext w x := by
  refine ⟨⟨w'.heap.extract w.heap.size w'.heap.size, w'.drawn⟩, ?_⟩
  obtain ⟨h1, h2, h3, h4, h5⟩ := h
  cases w'
  simp only [ext] at *
  subst h1; subst h2; subst h3
  congr 1
  apply Array.ext_getElem?
  intro k
  rw [Array.getElem?_append]
  split
  · exact h5 k (by assumption)
  · rename_i hk
    rw [Array.getElem?_extract]
    by_cases hk2 : k < Array.size (by assumption : Array Obj)
    · rw [if_pos (by omega)]
      congr 1
      omega
    · rw [if_neg (by omega)]
      simp
      omega
theorem Calls_ext_of {P : Program} {f : FuncId} {args : Array Value} {w : World} {x : Ext} {v : Value}
    (h : Calls P f args (ext w x) fun e w' => e = .returned v ∧ ∃ y, w' = ext (ext w x) y) : Calls P f args (ext w x) fun e w'' => e = .returned v ∧ ∃ y, w'' = ext w y :=
  h.mono fun _ _ ⟨he, m, hm⟩ => ⟨he, ⟨x.bs ++ m.bs, m.d⟩, by rw [hm, ext_ext]⟩
theorem wp_region_ext_lit {P : Program} {id : Nat} {Q : Exit → Act → World → Prop} {a : Act} {w : World} {l : List Oper} (hm : P.follows .mixedOrders = true) (hB : Region.lexB .any l.toArray = true)
    (h : wpQuiet P l.toArray (fun w' => ∃ x, w' = ext w x) (fun a' => ∀ w', (∃ x, w' = ext w x) → Q .normal a' w') l a) : (Code.region id l.toArray true).wp P Q a w :=
  wp_region_quiet (C := fun w' => ∃ x, w' = ext w x) hm hB ⟨⟨#[], w.drawn + 1⟩, by simp [ext]⟩ (by simpa using h)
theorem bel_of_ext {w w' : World} (h : ∃ x, w' = ext w x) : Below w.heap.size w w' := by obtain ⟨x, rfl⟩ := h; exact Below_ext w x
theorem ext_trans {w w1 w2 : World} (h : ∃ x, w1 = ext w x) (k : ∃ x, w2 = ext w1 x) : ∃ x, w2 = ext w x := by
  obtain ⟨x, rfl⟩ := h; obtain ⟨y, rfl⟩ := k; exact ⟨_, ext_ext w x y⟩
theorem ext_refl (w : World) : ∃ x, w = ext w x := ⟨_, ext_zero w⟩
theorem ext_alloc' {w w1 : World} (h : ∃ x, w1 = ext w x) (o : Obj) : ∃ x, w1.alloc o = ext w x := ext_trans h (ext_alloc w1 o)
theorem ext_ext' {w w1 : World} (h : ∃ x, w1 = ext w x) (y : Ext) : ∃ x, ext w1 y = ext w x := ext_trans h ⟨y, rfl⟩
theorem ext_drew' {w w1 : World} (h : ∃ x, w1 = ext w x) : ∃ x, w1.drew = ext w x := ext_trans h ⟨⟨#[], w1.drawn + 1⟩, by simp only [ext, Array.append_empty]; rfl⟩
theorem wxr (w : World) : ∃ x, w = ext w x := ext_refl w
theorem wxe {w w1 : World} (h : ∃ x, w1 = ext w x) (y : Ext) : ∃ x, ext w1 y = ext w x := ext_ext' h y
theorem wxa {w w1 : World} (h : ∃ x, w1 = ext w x) (o : Obj) : ∃ x, w1.alloc o = ext w x := ext_alloc' h o
theorem wxd {w w1 : World} (h : ∃ x, w1 = ext w x) : ∃ x, w1.drew = ext w x := ext_drew' h
theorem ret_bool {a b : Bool} (h : a = b) : Ending.returned (.bool a) = .returned (.bool b) := by rw [h]
theorem ret_int {a b : Int} (h : a = b) : Ending.returned (.int .i64 a) = .returned (.int .i64 b) := by rw [h]
theorem int_succ (k : Nat) : Value.int .i64 ((k : Int) + 1) = .int .i64 ((k + 1 : Nat) : Int) := by simp
theorem Calls_ext_of2 {P : Program} {f : FuncId} {args : Array Value} {w : World} {b c : Array Obj} {d : Nat} {v : Value}
    (h : Calls P f args (ext w ⟨b ++ c, d⟩) fun e w' => e = .returned v ∧ ∃ y, w' = ext (ext w ⟨b ++ c, d⟩) y) : Calls P f args (ext w ⟨b ++ c, d⟩) fun e w'' => e = .returned v ∧ ∃ y : Ext, w'' = ext w ⟨b ++ y.bs, y.d⟩ :=
  h.mono fun _ _ ⟨he, m, hm⟩ => ⟨he, ⟨c ++ m.bs, m.d⟩, by rw [hm, ext_ext]; simp only [Array.append_assoc]⟩
theorem own_slice {w : World} {B e sz : Nat} {v : Value} {n : Nat} {xs : List Value} (h : w.ownsRow B e sz v n xs) : ∃ a cap, v = .slice a n cap := by
  rcases h.2 with ⟨rfl, rfl⟩ | ⟨g, cap, cur, rfl, _⟩
  · exact ⟨_, _, rfl⟩
  · exact ⟨_, _, rfl⟩
theorem own_base {w : World} {B B' e sz : Nat} {v : Value} {n : Nat} {xs : List Value} (h : w.ownsRow B e sz v n xs) (hB : B' ≤ B) : w.ownsRow B' e sz v n xs := by
  refine ⟨h.1, ?_⟩
  rcases h.2 with h2 | ⟨g, cap, cur, h1, h2, h3⟩
  · exact .inl h2
  · exact .inr ⟨g, cap, cur, h1, Nat.le_trans hB h2, h3⟩
theorem wp_region_heldE {P : Program} {id : Nat} {Q : Exit → Act → World → Prop} {a : Act} {w : World} {ops : Array Oper} (hm : P.follows .mixedOrders = true)
    (h : wpAnyH P .any ops Q (fun w' => ∃ x, w' = ext w x) ops.size (Array.replicate ops.size false) a (ext w ⟨#[], w.drawn + 1⟩)) : (Code.region id ops true).wp P Q a w :=
  wp_region_held hm (by simpa [ext] using h)
theorem takeE {P : Program} {ops : Array Oper} {Q : Exit → Act → World → Prop} {W : World} {i : Nat} {oi : Oper} {v : Value} {fuel : Nat} {listed : Array Bool} {a : Act} {w : World} (hi : ops[i]? = some oi)
    (hs : Region.noSelect ops = true) (hf : Region.free .any ops listed i = true) (hr : (Region.ready .any ops listed).contains i = true)
    (hQ : ∀ c a w, Q (.panic c) (a.put oi.dst v) w → Q (.panic c) a w) (hw : Region.wanted oi (yielded ops a.tmps) = true) (hy : ∀ x, (execOp a.eval oi).run P (ext W x) = .ok (.value v) (ext W x)) (hS : ∃ x, w = ext W x)
    (h : wpAnyH P .any ops Q (fun w' => ∃ x, w' = ext W x) fuel (listed.setIfInBounds i true) (a.put oi.dst v) w) : wpAnyH P .any ops Q (fun w' => ∃ x, w' = ext W x) (fuel + 1) listed a w :=
  wpAnyH_take hi hs hf hr hQ (.inl ⟨hw, by rintro _ ⟨x, rfl⟩; exact hy x⟩) hS h
theorem nextE {P : Program} {ops : Array Oper} {Q : Exit → Act → World → Prop} {S : World → Prop} {i : Nat} {o : Oper} {fuel : Nat} {listed : Array Bool} {a : Act} {w : World} (ho : ops[i]? = some o)
    (hr : Region.ready .any ops listed = [i]) (hw : Region.wanted o (yielded ops a.tmps) = true)
    (h : ∀ K' : Act → World → Prop, Hid (∀ a w, S w → wpAnyH P .any ops Q S fuel (listed.setIfInBounds i true) a w → K' a w) → Oper.wp P o a w K' Q) : wpAnyH P .any ops Q S (fuel + 1) listed a w :=
  wpAnyH_all hr (by simp) fun j hj => by
    obtain rfl : j = i := by simpa using hj
    exact wpOp_step ho (fun K' hK => by rw [if_pos hw]; exact h K' (fun a w hS hW => hK a w ⟨hS, hW⟩))
end
section
open Go.ChangeShapes Go.WideShapes Go.ChangeAt Go.RowKit
/-- the k-th number of a list (0 behind its end); kept closed to simp -/
def nth (xs : List Int) (k : Nat) : Int := xs.getD k 0
def iter {α : Type} (f : Nat → α → α) (a : α) : Nat → α
  | 0 => a
  | n + 1 => f n (iter f a n)
def allTo (p : Nat → Bool) : Nat → Bool
  | 0 => true
  | n + 1 => allTo p n && p n
theorem allTo_false {p : Nat → Bool} {k n : Nat} (h : k < n) (hk : p k = false) : allTo p n = false := by
  induction n with
  | zero => omega
  | succ n ih =>
    simp only [allTo]
    by_cases e : k = n
    · subst e; simp [hk]
    · rw [ih (by omega)]; rfl
theorem allTo_true {p : Nat → Bool} {n : Nat} : allTo p n = true ↔ ∀ k, k < n → p k = true := by
  induction n with
  | zero => simp [allTo]
  | succ n ih =>
    simp only [allTo, Bool.and_eq_true, ih]
    constructor
    · rintro ⟨h1, h2⟩ k hk
      by_cases e : k = n
      · subst e; exact h2
      · exact h1 k (by omega)
    · intro h
      exact ⟨fun k hk => h k (by omega), h n (by omega)⟩
theorem allTo_succ {p : Nat → Bool} {k : Nat} (h : allTo p k = true) (hk : p k = true) : allTo p (k + 1) = true := by simp [allTo, h, hk]
/-- v is a slice of n elements of sz cells each, which hold cs -/
def Sl (w : World) (sz : Nat) (v : Value) (n : Nat) (cs : List Value) : Prop :=
  ∃ a b o cap, v = .slice a n cap ∧ n ≤ cap ∧ cap ≤ maxLen ∧ cs.length = n * sz ∧ (0 < n → a = some ⟨b, o, none⟩ ∧ b < w.heap.size) ∧ ∀ i, i < cs.length → w.cell? ⟨b, o + i, none⟩ = cs[i]?
theorem Sl.mono {w w' : World} {sz : Nat} {v : Value} {n : Nat} {cs : List Value} (h : Sl w sz v n cs) (hb : Below w.heap.size w w') : Sl w' sz v n cs := by
  obtain ⟨a, b, o, cap, rfl, h1, h2, h3, h4, h5⟩ := h
  refine ⟨a, b, o, cap, rfl, h1, h2, h3, fun hn => ⟨(h4 hn).1, Nat.lt_of_lt_of_le (h4 hn).2 hb.size⟩, fun i hi => ?_⟩
  have hn : 0 < n := by
    rcases Nat.eq_zero_or_pos n with e | e
    · subst e; simp at h3; simp [h3] at hi
    · exact e
  rw [← h5 i hi]
  exact hb.cell (p := ⟨b, o + i, none⟩) (h4 hn).2
theorem Sl.ext {w : World} {sz : Nat} {v : Value} {n : Nat} {cs : List Value} (h : Sl w sz v n cs) (x : Ext) : Sl (ext w x) sz v n cs := h.mono (Below_ext w x)
theorem Sl.alloc {w : World} {sz : Nat} {v : Value} {n : Nat} {cs : List Value} (h : Sl w sz v n cs) (o : Obj) : Sl (w.alloc o) sz v n cs :=
  h.mono ((Below.refl _ _).alloc (Nat.le_refl _) o)
theorem Sl_own {w : World} {base e sz : Nat} {v : Value} {n : Nat} {cs : List Value} (h : w.ownsRow base e sz v n cs) : Sl w sz v n cs := by
  obtain ⟨h1, h2⟩ := h
  rcases h2 with ⟨rfl, rfl⟩ | ⟨g, cap, cur, rfl, hb, hg, hnc, hcm, hcs, htake⟩
  · exact ⟨none, 0, 0, 0, rfl, Nat.le_refl _, by simp [maxLen], h1, fun h => absurd h (by omega), fun i hi => by simp at h1; simp [h1] at hi⟩
  · refine ⟨_, g, 0, cap, rfl, hnc, hcm, h1, fun _ => ⟨rfl, (Array.getElem?_eq_some_iff.1 hg).1⟩, fun i hi => ?_⟩
    rw [Nat.zero_add, cell_of_row w g i cur e (0, 0) hg, ← htake, List.getElem?_take, if_pos (by omega)]
    simp
theorem idx_run {t e sz : Nat} {z : Option Value} {P : Program} (ht : P.underlying t = some (.slice e)) (hi : (P.info? e).map (fun i => i.size) = some sz)
    (b o n cap k : Nat) (h : k < n) (w : World) :
    (Instr.indexAt t (.slice (some ⟨b, o, none⟩) n cap) (.int .i64 k)).run P w = .ok (.pointer (some ⟨b, o + k * sz, none⟩)) w := by
  obtain ⟨i, hi1, hi2⟩ := Option.map_eq_some_iff.1 hi
  subst hi2
  simp [Instr.indexAt, asIntOf, run_underlying ht, sizeOf, typeInfo, hi1, h, Addr.add]
theorem Sl.idx {w : World} {sz : Nat} {v : Value} {n : Nat} {cs : List Value} (h : Sl w sz v n cs) {t e : Nat} {P : Program} (ht : P.underlying t = some (.slice e)) (hi : (P.info? e).map (fun i => i.size) = some sz) :
    ∃ a b o cap, v = .slice a n cap ∧ n ≤ cap ∧ n ≤ 9223372036854775807 ∧ cap ≤ 9223372036854775807 ∧ ∀ k, k < n → Old w b ∧ (∀ w', (Instr.indexAt t (.slice a n cap) (.int .i64 k)).run P w' = .ok (.pointer (some ⟨b, o + k * sz, none⟩)) w') ∧
      ∀ j, j < sz → w.cell? ⟨b, o + k * sz + j, none⟩ = cs[k * sz + j]? := by
  obtain ⟨a, b, o, cap, rfl, h1, h2, h3, h4, h5⟩ := h
  unfold maxLen at h2
  refine ⟨a, b, o, cap, rfl, h1, by omega, by omega, fun k hk => ?_⟩
  obtain ⟨rfl, hb⟩ := h4 (by omega)
  refine ⟨⟨hb⟩, fun w' => idx_run (z := none) ht hi b o n cap k hk w', fun j hj => ?_⟩
  have : k * sz + j < n * sz := by
    have : (k + 1) * sz ≤ n * sz := Nat.mul_le_mul_right _ hk
    rw [Nat.add_mul] at this
    omega
  rw [Nat.add_assoc]
  exact h5 _ (by omega)
/-! ### numbers -/
def iv (n : Int) : Value := .int .i64 n
def IntsAt (w : World) (v : Value) (xs : List Int) : Prop := Sl w 1 v xs.length (xs.map iv)
theorem IntsAt.mono {w w' : World} {v : Value} {xs : List Int} (h : IntsAt w v xs) (hb : Below w.heap.size w w') : IntsAt w' v xs := Sl.mono h hb
theorem wmI {w w' : World} {v : Value} {xs : List Int} (h : IntsAt w v xs) (k : ∃ x, w' = ext w x) : IntsAt w' v xs := h.mono (bel_of_ext k)
theorem IntsAt.ext {w : World} {v : Value} {xs : List Int} (h : IntsAt w v xs) (x : Ext) : IntsAt (ext w x) v xs := Sl.ext h x
theorem IntsAt.alloc {w : World} {v : Value} {xs : List Int} (h : IntsAt w v xs) (o : Obj) : IntsAt (w.alloc o) v xs := Sl.alloc h o
theorem nth_get {xs : List Int} {k : Nat} (h : k < xs.length) : xs[k] = nth xs k := by simp [nth, h]
theorem getElem_of_nth {xs : List Int} {k : Nat} (h : k < xs.length) : (xs.map iv)[k]? = some (.int .i64 (nth xs k)) := by
  rw [← nth_get h]; simp [iv, h]
end
section
open Go.ChangeShapes Go.WideShapes Go.ChangeAt Go.RowKit
/-- one row: its value, the element's type, the cells of an element, the number of elements, the cells -/
structure Row where
  v : Value
  e : Nat
  sz : Nat
  n : Nat
  cs : List Value
/-- since W0 nothing old has changed; the rows L are the call's own, each in a block of its own -/
structure Held (W0 w : World) (L : List Row) : Prop where
  bel : Below W0.heap.size W0 w
  own : ∀ r ∈ L, w.ownsRow W0.heap.size r.e r.sz r.v r.n r.cs
  apart : L.Pairwise fun r r' => ∀ g, r.v.ownBlock = some g → r'.v.ownBlock ≠ some g
theorem Held.start (w : World) : Held w w [] := ⟨Below.refl _ _, (fun r h => by cases h), List.Pairwise.nil⟩
theorem Held.le {W0 w : World} {L : List Row} (H : Held W0 w L) : W0.heap.size ≤ w.heap.size := H.bel.size
theorem Held.grow {W0 w w' : World} {L : List Row} (H : Held W0 w L) (h : Below w.heap.size w w') : Held W0 w' L := by
  refine ⟨H.bel.trans (h.mono H.le), fun r hr => ?_, H.apart⟩
  have ho := H.own r hr
  refine ⟨ho.1, ?_⟩
  rcases ho.2 with h2 | ⟨g, cap, cur, h1, h2, h3, h4⟩
  · exact .inl h2
  · exact .inr ⟨g, cap, cur, h1, h2, by rw [h.block g (Array.getElem?_eq_some_iff.1 h3).1]; exact h3, h4⟩
theorem Held.ext {W0 w : World} {L : List Row} (H : Held W0 w L) (x : Ext) : Held W0 (ext w x) L := H.grow (Below_ext w x)
theorem Held.to {W0 w w' : World} {L : List Row} (H : Held W0 w L) (h : ∃ x, w' = Proofs.YtchcepihmphdmaaGreatDoor.ext w x) : Held W0 w' L := H.grow (bel_of_ext h)
/-- a row that was made since w -/
theorem Held.push {W0 w w' : World} {L : List Row} {v : Value} {e sz n : Nat} {cs : List Value} (H : Held W0 w L) (h : Below w.heap.size w w') (ho : w'.ownsRow w.heap.size e sz v n cs) : Held W0 w' (⟨v, e, sz, n, cs⟩ :: L) := by
  have H' := H.grow h
  refine ⟨H'.bel, fun r hr => ?_, List.Pairwise.cons (fun r hr g hg hg' => ?_) H'.apart⟩
  · rcases List.mem_cons.1 hr with rfl | hr
    · exact own_base ho H.le
    · exact H'.own r hr
  · have h1 := (ho.lt g hg).1
    have h2 := ((H.own r hr).lt g hg').2
    omega
theorem Held.drop {W0 w : World} {L : List Row} {r : Row} (H : Held W0 w (r :: L)) : Held W0 w L :=
  ⟨H.bel, fun r' h => H.own r' (List.mem_cons_of_mem _ h), H.apart.of_cons⟩
theorem Held.sl {W0 w : World} {L : List Row} (H : Held W0 w L) {v : Value} {e sz n : Nat} {cs : List Value} (h : (⟨v, e, sz, n, cs⟩ : Row) ∈ L) : Sl w sz v n cs := Sl_own (H.own _ h)
theorem Held.old {W0 w : World} {L : List Row} (H : Held W0 w L) {v : Value} {sz n : Nat} {cs : List Value} (h : Sl W0 sz v n cs) : Sl w sz v n cs := h.mono H.bel
/-- the first row's cells have changed, nothing else -/
theorem Held.write {W0 w w' : World} {L : List Row} {r : Row} {cs : List Value} (H : Held W0 w (r :: L)) (hg : w.grownBy w' r.v.ownBlock) (ho : w'.ownsRow W0.heap.size r.e r.sz r.v r.n cs) : Held W0 w' (⟨r.v, r.e, r.sz, r.n, cs⟩ :: L) := by
  have hr0 := H.own r List.mem_cons_self
  refine ⟨H.bel.grown hg H.le (fun k hk => (hr0.lt k hk).1), fun r' hr' => ?_, ?_⟩
  · rcases List.mem_cons.1 hr' with rfl | hr'
    · exact ho
    · refine (H.own r' (List.mem_cons_of_mem _ hr')).kept hg ?_
      cases hb : r'.v.ownBlock with
      | none => exact .inl rfl
      | some g =>
        refine .inr fun e => ?_
        exact (List.pairwise_cons.1 H.apart).1 r' hr' g e.symm hb
  · exact List.Pairwise.cons (List.pairwise_cons.1 H.apart).1 H.apart.of_cons
theorem Held.swap {W0 w : World} {L : List Row} {r r' : Row} (H : Held W0 w (r :: r' :: L)) : Held W0 w (r' :: r :: L) := by
  refine ⟨H.bel, fun q hq => H.own q (by simp only [List.mem_cons] at hq ⊢; rcases hq with h | h | h <;> simp [h]), ?_⟩
  have h := H.apart
  rw [List.pairwise_cons, List.pairwise_cons] at h
  rw [List.pairwise_cons, List.pairwise_cons]
  refine ⟨fun q hq g hg hg' => ?_, fun q hq => h.1 q (List.mem_cons_of_mem _ hq), h.2.2⟩
  rcases List.mem_cons.1 hq with rfl | hq
  · exact h.1 r' List.mem_cons_self g hg' hg
  · exact h.2.1 q hq g hg hg'
/-- any row to the front -/
theorem Held.front {W0 w : World} {L L' : List Row} (H : Held W0 w L) (p : L.Perm L') : Held W0 w L' := by
  refine ⟨H.bel, fun q hq => H.own q (p.mem_iff.2 hq), ?_⟩
  refine (p.pairwise_iff fun {r r'} h g hg hg' => ?_).1 H.apart
  exact h g hg' hg
theorem Held.fresh {W0 w1 w' : World} {v : Value} {e sz n : Nat} {cs : List Value} (ho : w'.ownsRow w1.heap.size e sz v n cs) (h1 : ∃ x, w1 = Proofs.YtchcepihmphdmaaGreatDoor.ext W0 x) (h2 : ∃ x, w' = Proofs.YtchcepihmphdmaaGreatDoor.ext w1 x) : Held W0 w' [⟨v, e, sz, n, cs⟩] :=
  ((Held.start W0).to h1).push (bel_of_ext h2) ho
theorem Held.append {W0 w w' : World} {L : List Row} {r : Row} {v' : Value} {n' : Nat} {cs' : List Value} (H : Held W0 w (r :: L)) (hg : w.grownBy w' r.v.ownBlock) (ho : w'.ownsRow W0.heap.size r.e r.sz v' n' cs')
    (hat : v'.ownBlock = r.v.ownBlock ∨ v'.ownBlock = some w.heap.size ∨ v'.ownBlock = none) : Held W0 w' (⟨v', r.e, r.sz, n', cs'⟩ :: L) := by
  have hr0 := H.own r List.mem_cons_self
  refine ⟨H.bel.grown hg H.le (fun k hk => (hr0.lt k hk).1), fun r' hr' => ?_, List.Pairwise.cons (fun r' hr' g hg1 hg2 => ?_) H.apart.of_cons⟩
  · rcases List.mem_cons.1 hr' with rfl | hr'
    · exact ho
    · refine (H.own r' (List.mem_cons_of_mem _ hr')).kept hg ?_
      cases hb : r'.v.ownBlock with
      | none => exact .inl rfl
      | some g =>
        refine .inr fun e => ?_
        exact (List.pairwise_cons.1 H.apart).1 r' hr' g e.symm hb
  · have h1 := ((H.own r' (List.mem_cons_of_mem _ hr')).lt g hg2).2
    simp only at hg1
    rcases hat with h | h | h
    · exact (List.pairwise_cons.1 H.apart).1 r' hr' g (by rw [← h]; exact hg1) hg2
    · rw [h] at hg1; cases hg1; omega
    · rw [h] at hg1; cases hg1
/-- rows that a callee has made -/
theorem Held.join {W0 w w' : World} {L L' : List Row} (H : Held W0 w L) (K : Held w w' L') : Held W0 w' (L' ++ L) := by
  have H' := H.grow K.bel
  refine ⟨H'.bel, fun r hr => ?_, List.pairwise_append.2 ⟨K.apart, H'.apart, fun r hr r' hr' g hg hg' => ?_⟩⟩
  · rcases List.mem_append.1 hr with hr | hr
    · exact own_base (K.own r hr) H.le
    · exact H'.own r hr
  · have h1 := ((K.own r hr).lt g hg).1
    have h2 := ((H.own r' hr').lt g hg').2
    omega
/-- an empty slice that was made -/
theorem Held.empty {W0 w : World} {L : List Row} (H : Held W0 w L) (e sz : Nat) : Held W0 (w.alloc (.cells #[] e)) (⟨.slice (some ⟨w.heap.size, 0, none⟩) 0 0, e, sz, 0, []⟩ :: L) :=
  H.push ((Below.refl _ _).alloc (Nat.le_refl _) _) (World.ownsRow_made w #[] 0 (Nat.le_refl _) (by simp [maxLen]) (by simp))
theorem perm_pull {α : Type} {r : α} : ∀ (L : List α) (i : Nat), L[i]? = some r → L.Perm (r :: L.eraseIdx i)
  | [], i, h => by simp at h
  | x :: L, 0, h => by
    have : x = r := by simpa using h
    subst this
    exact List.Perm.refl _
  | x :: L, i + 1, h => by
    have := perm_pull L i (by simpa using h)
    exact (List.Perm.cons x this).trans (List.Perm.swap _ _ _)
/-- row i to the front -/
theorem Held.pull {W0 w : World} {L : List Row} {r : Row} (H : Held W0 w L) (i : Nat) (h : L[i]? = some r) : Held W0 w (r :: L.eraseIdx i) := H.front (perm_pull L i h)
/-- what append and make ask of a slice type t with elements of type e -/
structure Elem (P : Program) (t e size bytes : Nat) (z : Value) : Prop where
  ut : P.underlying t = some (.slice e)
  info : (P.info? e).map (fun i => (i.zero, i.size, i.bytes)) = some (some z, size, bytes)
  zs : z.cells.size = size
  pos : 0 < size
/-! ### append -/
theorem run_append_sl {P : Program} (w : World) (base : Nat) (t ty e : TypeId) (z : Value) (size bytes : Nat) (E : Elem P t e size bytes z) (v u : Value) (n m : Nat) (xs news : List Value) (hown : w.ownsRow base e size v n xs) (hsl : Sl w size u m news) (h1 : ∀ u ∈ news, u.oneCell' = true)
    (h63 : n + m ≤ maxLen) (hbytes : (n + m) * bytes ≤ 140737488355328) (hbase : base ≤ w.heap.size) :
    ∃ v' w', (Builtin.append_ #[t, t] ty #[v, u]).run P w = .ok v' w' ∧ w'.ownsRow base e size v' (n + m) (xs ++ news) ∧ w.grownBy w' v.ownBlock ∧ (v'.ownBlock = v.ownBlock ∨ v'.ownBlock = some w.heap.size ∨ v'.ownBlock = none) := by
  obtain ⟨i, hi, hz, hsize, hby⟩ := info_parts E.info
  have ht := E.ut
  obtain ⟨a, b, o, cap, rfl, s1, s2, s3, s4, s5⟩ := hsl
  rcases Nat.eq_zero_or_pos m with rfl | hm
  · have hnews : news = [] := List.eq_nil_of_length_eq_zero (by simpa using s3)
    subst hnews
    have hr : (Builtin.append_ #[t, t] ty #[v, .slice a 0 cap]).run P w = .ok v w := by
      have e0 : (Builtin.firstCells size 0 (.slice a 0 cap)).run P w = .ok #[] w := by
        cases a <;> simp [Builtin.firstCells, loadCells, loadCellsFrom]
      rcases hown.2 with ⟨rfl, rfl⟩ | ⟨g, cap', cur, rfl, _, _, hnc, _⟩
      · simp [Builtin.append_, run_underlying ht, sizeOf, typeInfo, hi, Builtin.lenOf, hsize, e0]
      · simp [Builtin.append_, run_underlying ht, sizeOf, typeInfo, hi, Builtin.lenOf, hsize, e0, hnc, storeCells]
    exact ⟨v, w, hr, by simpa using hown, World.grownBy.refl _ _, .inl rfl⟩
  · obtain ⟨rfl, hb⟩ := s4 hm
    obtain ⟨g, cap', w', h2, h3, h4, h5, _⟩ := run_append_lies (P := P) w t ty base e i z size bytes ht hi hz hsize hby E.zs E.pos v n xs hown ⟨b, o, none⟩ m cap news s3 (fun j u hu => by
      have hj := (List.getElem?_eq_some_iff.1 hu).1
      rw [Go.WideShapes.add_plain, s5 j hj, hu]) h1 hm h63 hbytes hbase w.heap.size rfl
    refine ⟨_, w', h2, h3, h4, ?_⟩
    rcases h5 with h5 | h5
    · exact .inl h5.symm
    · exact .inr (.inl (by rw [h5]; rfl))
theorem wpList_append_held {P : Program} {W0 : World} {w : World} {L : List Row} {ops : Array Oper} {rest : List Oper} {o : Oper} {a : Act} {Q : Exit → Act → World → Prop} (hgd : o.guard = none) (s x : Operand) (t : TypeId)
    (ho : o.op = .call { callee := .builtin .append, args := #[s, x], argTypes := #[t, t] })
    {e size bytes : Nat} {z : Value} (E : Elem P t e size bytes z) {v u : Value} {n m : Nat} {xs news : List Value} (H : Held W0 w (⟨v, e, size, n, xs⟩ :: L)) (hs : a.eval s = v) (hx : a.eval x = u) (hsl : Sl w size u m news) (h1 : ∀ u ∈ news, u.oneCell' = true)
    (h63 : n + m ≤ maxLen) (hbytes : (n + m) * bytes ≤ 140737488355328)
    (h : ∀ v' w', Held W0 w' (⟨v', e, size, n + m, xs ++ news⟩ :: L) → wpList P ops Q rest (a.put o.dst v') w') : wpList P ops Q (o :: rest) a w := by
  refine wpList_plain hgd fun K hK => ?_
  obtain ⟨v', w', hr, h2, h3, h4⟩ := run_append_sl (P := P) w W0.heap.size t o.type e z size bytes E v u n m xs news (H.own _ List.mem_cons_self) hsl h1 h63 hbytes H.le
  unfold Oper.wp execOp
  simp only [ho, resolve, invoke, builtin, Sem.run_bind, Sem.run_pure, Result.andThen_ok, List.map_toArray, List.map_cons, List.map_nil, hs, hx, hr]
  exact hK _ _ (h v' w' (H.append h3 h2 h4))
theorem wpList_make_held {P : Program} {W0 : World} {w : World} {L : List Row} {ops : Array Oper} {rest : List Oper} {o : Oper} {a : Act} {Q : Exit → Act → World → Prop}
    (hg : o.guard = none) (l c : Operand) (t : TypeId) (hop : o.op = Op.makeSlice t l c) {e size bytes : Nat} {z : Value} (E : Elem P t e size bytes z) (H : Held W0 w L)
    (kl kc : IntKind) (N C : Int) (n : Nat) (hl : a.eval l = .int kl N) (hc : a.eval c = .int kc C) (hL : N = (n : Int)) (hC : C = (n : Int)) (b2 : bytes * n ≤ 281474976710656) (b3 : n ≤ maxLen)
    (hK : ∀ w', Held W0 w' (⟨.slice (some ⟨w.heap.size, 0, none⟩) n n, e, size, n, (madeCells z.cells (n * size)).toList⟩ :: L) → wpList P ops Q rest (a.put o.dst (.slice (some ⟨w.heap.size, 0, none⟩) n n)) w') :
    wpList P ops Q (o :: rest) a w := by
  obtain ⟨i, hi, hz, hsize, hby⟩ := info_parts E.info
  refine wpList_make_full w hg l c t hop w.heap.size e i z size E.ut hi hz hsize kl kc N C n hl hc hL hC (by rw [hby]; exact b2) b3 (Nat.le_refl _) fun w' h1 h2 => hK w' (H.push ((Below.refl _ _).grown h2 (Nat.le_refl _) (fun k hk => by cases hk)) h1)
theorem Sl_new1 (w : World) (u : Value) (t : TypeId) : Sl (w.alloc (.cells #[u] t)) 1 (.slice (some ⟨w.heap.size, 0, none⟩) 1 1) 1 [u] := by
  refine ⟨_, w.heap.size, 0, 1, rfl, Nat.le_refl _, by simp [maxLen], rfl, fun _ => ⟨rfl, by simp⟩, fun i hi => ?_⟩
  rw [Nat.zero_add, World.cell?_alloc_at _ _ _ _ rfl]
  simp
/-- a new block of cells, read as a slice -/
theorem Sl_new (w : World) (cs : Array Value) (t : TypeId) (sz n : Nat) (h : cs.size = n * sz) (hn : n ≤ maxLen) (hsz : 0 < sz) : Sl (w.alloc (.cells cs t)) sz (.slice (some ⟨w.heap.size, 0, none⟩) n n) n cs.toList := by
  refine ⟨_, w.heap.size, 0, n, rfl, Nat.le_refl _, hn, by simpa using h, fun _ => ⟨rfl, by simp⟩, fun i hi => ?_⟩
  rw [Nat.zero_add, World.cell?_alloc_at _ _ _ _ rfl]
  simp
end
section
open Go.ChangeShapes Go.WideShapes Go.ChangeAt Go.RowKit
theorem infoInt : (Tryz.prog.info? 3).map (fun i => i.size) = some 1 := by kernel_rfl
theorem infoInt3 : (Tryz.prog.info? 3).map (fun i => (i.zero, i.size, i.bytes)) = some (some (.int .i64 0), 1, 8) := by kernel_rfl
theorem IntsAt.opn {w : World} {v : Value} {xs : List Int} (h : IntsAt w v xs) :
    ∃ a b o cap, v = .slice a xs.length cap ∧ xs.length ≤ cap ∧ xs.length ≤ 9223372036854775807 ∧ cap ≤ 9223372036854775807 ∧ ∀ k, k < xs.length → Old w b ∧ (∀ w', (Instr.indexAt 24 (.slice a xs.length cap) (.int .i64 k)).run Tryz.prog w' = .ok (.pointer (some ⟨b, o + k, none⟩)) w') ∧
      w.cell? ⟨b, o + k, none⟩ = some (.int .i64 (nth xs k)) := by
  obtain ⟨a, b, o, cap, rfl, h1, h2, h3, h4⟩ := Sl.idx h Tryz.underlying24 infoInt
  refine ⟨a, b, o, cap, rfl, h1, h2, h3, fun k hk => ?_⟩
  obtain ⟨g1, g2, g3⟩ := h4 k hk
  refine ⟨g1, fun w' => by have := g2 w'; rwa [Nat.mul_one] at this, ?_⟩
  have := g3 0 (by omega)
  rw [Nat.mul_one, Nat.add_zero, Nat.add_zero] at this
  rw [this, getElem_of_nth hk]
theorem IntsAt.take {w : World} {a : Option Addr} {n cap : Nat} {l : List Int} (h : IntsAt w (.slice a n cap) l) {k : Nat} (hk : k ≤ l.length) : IntsAt w (.slice a k cap) (l.take k) := by
  obtain ⟨a', b, o, cap', e, h1, h2, h3, h4, h5⟩ := h
  simp only [Value.slice.injEq] at e
  obtain ⟨rfl, rfl, rfl⟩ := e
  have hl : (l.take k).length = k := by simp; omega
  refine ⟨a, b, o, cap, by rw [hl], by omega, h2, by simp, fun hn => h4 (by omega), fun i hi => ?_⟩
  have hi' : i < k := by simp at hi; omega
  rw [h5 i (by simp; omega), List.map_take, List.getElem?_take, if_pos hi']
end
section
open Go.ChangeShapes Go.WideShapes Go.ChangeAt Go.RowKit
/-- the call's own row: a fresh slice -/
abbrev OwnI (w : World) (B : Nat) (v : Value) (xs : List Int) : Prop := w.ownsRow B 3 1 v xs.length (xs.map iv)
theorem OwnI.ext {w : World} {B : Nat} {v : Value} {xs : List Int} (h : OwnI w B v xs) (x : Ext) : OwnI (ext w x) B v xs := by
  refine ⟨h.1, ?_⟩
  rcases h.2 with h2 | ⟨g, cap, cur, h1, h2, h3, h4⟩
  · exact .inl h2
  · exact .inr ⟨g, cap, cur, h1, h2, by rw [heap_ext w x (Array.getElem?_eq_some_iff.1 h3).1]; exact h3, h4⟩
/-- k elements written, the rest noughts -/
def part (xs : List Int) (k : Nat) : List Value := (xs.take k).map iv ++ List.replicate (xs.length - k) (iv 0)
theorem madeOne (z : Value) (n : Nat) : (madeCells #[z] n).toList = List.replicate n z := by
  apply List.ext_getElem?
  intro i
  by_cases h : i < n <;> simp [madeCells, h, Nat.mod_one]
def eqInts (a b : List Int) : Bool := decide (a.length = b.length) && allTo (fun k => nth a k == nth b k) a.length
theorem eqInts_self (a : List Int) : eqInts a a = true := by simp [eqInts, allTo_true]
end
section
open Go.ChangeShapes Go.WideShapes Go.ChangeAt Go.RowKit
def marks (k : Int) (n : Nat) : List Int := (List.range n).map fun i : Nat => k + (i : Int)
/-- j elements marked -/
def marked (xs : List Int) (k : Int) (j : Nat) : List Value := (marks k j).map iv ++ (xs.drop j).map iv
abbrev rowI (v : Value) (xs : List Int) : Row := ⟨v, 3, 1, xs.length, xs.map iv⟩
theorem elemInt : Elem Tryz.prog 24 3 1 8 (.int .i64 0) := ⟨Tryz.underlying24, infoInt3, rfl, by decide⟩
theorem Held.ints {W0 w : World} {L : List Row} (H : Held W0 w L) {v : Value} {xs : List Int} (h : rowI v xs ∈ L) : IntsAt w v xs := H.sl h
theorem Held.ints0 {W0 w : World} {L : List Row} {v : Value} {xs : List Int} (H : Held W0 w (rowI v xs :: L)) : IntsAt w v xs := H.sl List.mem_cons_self
end
section
open Go.ChangeShapes Go.WideShapes Go.ChangeAt Go.RowKit
theorem Held.nilI {W0 w : World} {L : List Row} (H : Held W0 w L) : Held W0 w (⟨.slice none 0 0, 3, 1, 0, []⟩ :: L) := ⟨H.bel, (fun r hr => by
  rcases List.mem_cons.1 hr with rfl | hr
  · exact World.ownsRow_nil _ _ _ _
  · exact H.own r hr), List.Pairwise.cons (fun r hr g hg => by simp [Value.ownBlock] at hg) H.apart⟩
theorem one_lit (x : Int) : ∀ u ∈ [Value.int .i64 x], u.oneCell' = true := by intro u hu; simp at hu; subst hu; rfl
theorem Held.snoc {W0 w : World} {L : List Row} {v : Value} {xs : List Int} {x : Int} (H : Held W0 w (⟨v, 3, 1, xs.length + 1, xs.map iv ++ [.int .i64 x]⟩ :: L)) : Held W0 w (rowI v (xs ++ [x]) :: L) := by
  have e : (xs ++ [x]).map iv = xs.map iv ++ [.int .i64 x] := by simp [iv]
  rw [rowI, e, List.length_append]; exact H
theorem Held.first {W0 w : World} {L : List Row} {r : Row} (H : Held W0 w (r :: L)) : Held W0 w [r] := ⟨H.bel, fun q hq => by simp at hq; subst hq; exact H.own _ List.mem_cons_self, by simp⟩
theorem Held.rowV {W0 w : World} {L : List Row} {v : Value} {xs : List Int} (H : Held W0 w (rowI v xs :: L)) : ∃ a c, v = .slice a xs.length c := own_slice (H.own _ List.mem_cons_self)
theorem Held.base {W0 W1 w : World} {L : List Row} (hb : Below W0.heap.size W0 W1) (H : Held W1 w L) : Held W0 w L :=
  ⟨hb.trans (H.bel.mono hb.size), fun r hr => own_base (H.own r hr) hb.size, H.apart⟩
theorem Held.unbox {w wr : World} {o : Obj} {L : List Row} (H : Held (w.alloc o) wr L) : Held w wr L := H.base ((Below.refl _ _).alloc (Nat.le_refl _) _)
theorem Held.box2 {w wr : World} {u v : Value} {t : TypeId} {L : List Row} (H : Held (w.alloc (.cells #[u, v] t)) wr L) : wr.cell? ⟨w.heap.size, 0, none⟩ = some u ∧ wr.cell? ⟨w.heap.size, 1, none⟩ = some v := by
  have h := fun i => H.bel.cell (p := ⟨w.heap.size, i, none⟩) (by rw [World.size_alloc]; simp)
  exact ⟨by rw [h, World.cell?_alloc_at _ _ _ _ rfl]; rfl, by rw [h, World.cell?_alloc_at _ _ _ _ rfl]; rfl⟩
theorem Held.boxOld {w wr : World} {o : Obj} {L : List Row} (H : Held (w.alloc o) wr L) : Old wr w.heap.size := ⟨by have := H.bel.size; rw [World.size_alloc] at this; omega⟩
def IntsPost (w : World) (xs : List Int) (e : Ending) (w' : World) : Prop := ∃ v', e = .returned v' ∧ Held w w' [rowI v' xs]
theorem IntsPost.nil {w w' : World} {xs : List Int} (h : xs = []) (hx : ∃ x, w' = ext w x) : IntsPost w xs (.returned (.slice none 0 0)) w' := by
  subst h; exact ⟨_, rfl, (((Held.start w).to hx).nilI)⟩
theorem IntsPost.empty {w w' : World} {xs : List Int} {v : Value} {L : List Row} (h : xs = []) (H : Held w w' (⟨v, 3, 1, 0, []⟩ :: L)) : IntsPost w xs (.returned v) w' := by
  subst h; exact ⟨_, rfl, H.first⟩
theorem IntsPost.got {w w' : World} {xs ys : List Int} {v : Value} {L : List Row} (h : xs = ys) (H : Held w w' (rowI v ys :: L)) : IntsPost w xs (.returned v) w' := by
  subst h; exact ⟨_, rfl, H.first⟩
theorem Held.take1 {W0 w w' : World} {L : List Row} {v : Value} {xs : List Int} (H : Held W0 w L) (K : Held w w' [rowI v xs]) : Held W0 w' (rowI v xs :: L) := H.join K
theorem wpList_make_any {P : Program} {W0 : World} {w : World} {L : List Row} {ops : Array Oper} {rest : List Oper} {o : Oper} {a : Act} {Q : Exit → Act → World → Prop}
    (hg : o.guard = none) (l c : Operand) (t : TypeId) (hop : o.op = Op.makeSlice t l c) {e size bytes : Nat} {z : Value} (E : Elem P t e size bytes z) (H : Held W0 w L)
    (kl kc : IntKind) (N C : Int) (n : Nat) (hl : a.eval l = .int kl N) (hc : a.eval c = .int kc C) (hL : N = (n : Int)) (hC : C = (n : Int)) (b2 : bytes * n ≤ 281474976710656) (b3 : n ≤ maxLen)
    (hK : ∀ g w', Held W0 w' (⟨.slice (some ⟨g, 0, none⟩) n n, e, size, n, (madeCells z.cells (n * size)).toList⟩ :: L) → wpList P ops Q rest (a.put o.dst (.slice (some ⟨g, 0, none⟩) n n)) w') :
    wpList P ops Q (o :: rest) a w := wpList_make_held hg l c t hop E H kl kc N C n hl hc hL hC b2 b3 (hK _)
theorem Held.oldRow {W0 w : World} {L : List Row} {g n cap : Nat} {xs : List Int} (H : Held W0 w (rowI (.slice (some ⟨g, 0, none⟩) n cap) xs :: L)) : Old w g := ⟨((H.own _ List.mem_cons_self).lt g rfl).2⟩
/-! ### a drawn region whose first operations only read what was there when the call began, and that then appends -/
theorem wp_region_heldB {P : Program} {W0 : World} {id : Nat} {Q : Exit → Act → World → Prop} {a : Act} {w : World} {ops : Array Oper} (_ : Below W0.heap.size W0 w) (hm : P.follows .mixedOrders = true)
    (h : wpAnyH P .any ops Q (fun w' => Below W0.heap.size W0 w') ops.size (Array.replicate ops.size false) a w.drew) : (Code.region id ops true).wp P Q a w :=
  wp_region_held hm h
theorem takeB {P : Program} {ops : Array Oper} {Q : Exit → Act → World → Prop} {W0 : World} {i : Nat} {oi : Oper} {v : Value} {fuel : Nat} {listed : Array Bool} {a : Act} {w : World} (hi : ops[i]? = some oi)
    (hs : Region.noSelect ops = true) (hf : Region.free .any ops listed i = true) (hr : (Region.ready .any ops listed).contains i = true)
    (hQ : ∀ c a w, Q (.panic c) (a.put oi.dst v) w → Q (.panic c) a w) (hw : Region.wanted oi (yielded ops a.tmps) = true) (hy : ∀ w', Below W0.heap.size W0 w' → (execOp a.eval oi).run P w' = .ok (.value v) w') (hS : Below W0.heap.size W0 w)
    (h : wpAnyH P .any ops Q (fun w' => Below W0.heap.size W0 w') fuel (listed.setIfInBounds i true) (a.put oi.dst v) w) : wpAnyH P .any ops Q (fun w' => Below W0.heap.size W0 w') (fuel + 1) listed a w :=
  wpAnyH_take hi hs hf hr hQ (.inl ⟨hw, hy⟩) hS h
theorem opwp_append_held {P : Program} {W0 : World} {w : World} {L : List Row} {o : Oper} {a : Act} {K : Act → World → Prop} {Q : Exit → Act → World → Prop} (s x : Operand) (t : TypeId)
    (ho : o.op = .call { callee := .builtin .append, args := #[s, x], argTypes := #[t, t] })
    {e size bytes : Nat} {z : Value} (E : Elem P t e size bytes z) {v u : Value} {n m : Nat} {xs news : List Value} (H : Held W0 w (⟨v, e, size, n, xs⟩ :: L)) (hs : a.eval s = v) (hx : a.eval x = u) (hsl : Sl w size u m news) (h1 : ∀ u ∈ news, u.oneCell' = true)
    (h63 : n + m ≤ maxLen) (hbytes : (n + m) * bytes ≤ 140737488355328)
    (h : ∀ v' w', Held W0 w' (⟨v', e, size, n + m, xs ++ news⟩ :: L) → K (a.put o.dst v') w') : Oper.wp P o a w K Q := by
  obtain ⟨v', w', hr, h2, h3, h4⟩ := run_append_sl (P := P) w W0.heap.size t o.type e z size bytes E v u n m xs news (H.own _ List.mem_cons_self) hsl h1 h63 hbytes H.le
  unfold Oper.wp execOp
  simp only [ho, resolve, invoke, builtin, Sem.run_bind, Sem.run_pure, Result.andThen_ok, List.map_toArray, List.map_cons, List.map_nil, hs, hx, hr]
  exact h v' w' (H.append h3 h2 h4)
theorem Sl_newAt (w : World) (u : Value) (t : TypeId) (b : Nat) (h : w.heap.size = b) : Sl (w.alloc (.cells #[u] t)) 1 (.slice (some ⟨b, 0, none⟩) 1 1) 1 [u] := by subst h; exact Sl_new1 w u t
theorem opwp_make_any {P : Program} {W0 : World} {w : World} {L : List Row} {o : Oper} {a : Act} {K : Act → World → Prop} {Q : Exit → Act → World → Prop}
    (l c : Operand) (t : TypeId) (hop : o.op = Op.makeSlice t l c) {e size bytes : Nat} {z : Value} (E : Elem P t e size bytes z) (H : Held W0 w L)
    (kl kc : IntKind) (N C : Int) (n : Nat) (hl : a.eval l = .int kl N) (hc : a.eval c = .int kc C) (hL : N = (n : Int)) (hC : C = (n : Int)) (b2 : bytes * n ≤ 281474976710656) (b3 : n ≤ maxLen)
    (hK : ∀ g w', Held W0 w' (⟨.slice (some ⟨g, 0, none⟩) n n, e, size, n, (madeCells z.cells (n * size)).toList⟩ :: L) → w.grownBy w' none → K (a.put o.dst (.slice (some ⟨g, 0, none⟩) n n)) w') : Oper.wp P o a w K Q := by
  obtain ⟨i, hi, hz, hsize, hby⟩ := info_parts E.info
  obtain ⟨w', hrun, r1, r2⟩ := run_make_full (P := P) w w.heap.size t e i z size E.ut hi hz hsize kl kc n (by rw [hby]; exact b2) b3 (Nat.le_refl _)
  subst hL
  subst hC
  unfold Oper.wp
  simp [execOp, hop, hl, hc, hrun, Result.andThen]
  exact hK _ _ (H.push ((Below.refl _ _).grown r2 (Nat.le_refl _) (fun k hk => by cases hk)) r1) r2
theorem wp_region_heldS {P : Program} {S : World → Prop} {id : Nat} {Q : Exit → Act → World → Prop} {a : Act} {w : World} {ops : Array Oper} (hm : P.follows .mixedOrders = true)
    (h : wpAnyH P .any ops Q S ops.size (Array.replicate ops.size false) a w.drew) : (Code.region id ops true).wp P Q a w := wp_region_held hm h
theorem takeS {P : Program} {ops : Array Oper} {Q : Exit → Act → World → Prop} {S : World → Prop} {i : Nat} {oi : Oper} {v : Value} {fuel : Nat} {listed : Array Bool} {a : Act} {w : World} (hi : ops[i]? = some oi)
    (hs : Region.noSelect ops = true) (hf : Region.free .any ops listed i = true) (hr : (Region.ready .any ops listed).contains i = true)
    (hQ : ∀ c a w, Q (.panic c) (a.put oi.dst v) w → Q (.panic c) a w) (hw : Region.wanted oi (yielded ops a.tmps) = true) (hy : ∀ w', S w' → (execOp a.eval oi).run P w' = .ok (.value v) w') (hS : S w)
    (h : wpAnyH P .any ops Q S fuel (listed.setIfInBounds i true) (a.put oi.dst v) w) : wpAnyH P .any ops Q S (fuel + 1) listed a w :=
  wpAnyH_take hi hs hf hr hQ (.inl ⟨hw, hy⟩) hS h
end
section
open Go.ChangeShapes Go.WideShapes Go.ChangeAt Go.RowKit
/-- a box that holds one value, as a row of the call's own -/
abbrev boxR (b : Nat) (t : Nat) (u : Value) : Row := ⟨.slice (some ⟨b, 0, none⟩) 1 1, t, 1, 1, [u]⟩
theorem Held.newBox {W0 w : World} {L : List Row} (H : Held W0 w L) (t : Nat) (u : Value) : Held W0 (w.alloc (.cells #[u] t)) (boxR w.heap.size t u :: L) :=
  H.push ((Below.refl _ _).alloc (Nat.le_refl _) _) ⟨rfl, .inr ⟨w.heap.size, 1, #[u], rfl, Nat.le_refl _, heap_alloc_new w _, Nat.le_refl _, by simp [maxLen], rfl, rfl⟩⟩
theorem Held.box {W0 w : World} {L : List Row} {b t : Nat} {u : Value} (H : Held W0 w L) (h : boxR b t u ∈ L) : w.cell? ⟨b, 0, none⟩ = some u ∧ w.frozen? ⟨b, 0, none⟩ = false := by
  have ho := H.own _ h
  exact ⟨by rw [ho.cellAt 0 (by show 0 < 1 * 1; omega)]; rfl, ho.frozenAt 0⟩
theorem Held.boxO {W0 w : World} {L : List Row} {b t : Nat} {u : Value} (H : Held W0 w L) (h : boxR b t u ∈ L) : Old w b := ⟨((H.own _ h).lt b rfl).2⟩
end
section
open Go.ChangeShapes Go.WideShapes Go.ChangeAt Go.RowKit
abbrev boxR2 (b : Nat) (t : Nat) (u v : Value) : Row := ⟨.slice (some ⟨b, 0, none⟩) 1 1, t, 2, 1, [u, v]⟩
theorem Held.newBox2 {W0 w : World} {L : List Row} (H : Held W0 w L) (t : Nat) (u v : Value) : Held W0 (w.alloc (.cells #[u, v] t)) (boxR2 w.heap.size t u v :: L) :=
  H.push ((Below.refl _ _).alloc (Nat.le_refl _) _) ⟨rfl, .inr ⟨w.heap.size, 1, #[u, v], rfl, Nat.le_refl _, heap_alloc_new w _, Nat.le_refl _, by simp [maxLen], rfl, rfl⟩⟩
theorem Held.readBox2 {W0 w : World} {L : List Row} {b t : Nat} {u v : Value} (H : Held W0 w L) (h : boxR2 b t u v ∈ L) : w.cell? ⟨b, 0, none⟩ = some u ∧ w.cell? ⟨b, 1, none⟩ = some v ∧ w.frozen? ⟨b, 0, none⟩ = false ∧ w.frozen? ⟨b, 1, none⟩ = false ∧ Old w b := by
  have ho := H.own _ h
  exact ⟨by rw [ho.cellAt 0 (by show 0 < 1 * 2; omega)]; rfl, by rw [ho.cellAt 1 (by show 1 < 1 * 2; omega)]; rfl, ho.frozenAt 0, ho.frozenAt 1, ⟨(ho.lt b rfl).2⟩⟩
theorem Held.setBox2 {W0 w : World} {L : List Row} {b t : Nat} {u v : Value} (H : Held W0 w (boxR2 b t u v :: L)) (u' v' : Value) : Held W0 ((w.setCell ⟨b, 0, none⟩ u').setCell ⟨b, 1, none⟩ v') (boxR2 b t u' v' :: L) := by
  have hst := (H.own _ List.mem_cons_self).stored 0 u'
  have hst2 := hst.1.stored 1 v'
  exact (H.write hst.2 hst.1).write hst2.2 hst2.1
theorem Held.readB2 {W0 w : World} {L : List Row} {b t : Nat} {u v : Value} (H : Held W0 w L) (i : Nat) (h : L[i]? = some (boxR2 b t u v)) : w.cell? ⟨b, 0, none⟩ = some u ∧ w.cell? ⟨b, 1, none⟩ = some v ∧ w.frozen? ⟨b, 0, none⟩ = false ∧ w.frozen? ⟨b, 1, none⟩ = false ∧ Old w b := H.readBox2 (List.mem_of_getElem? h)
theorem Held.setB2a {W0 w : World} {L : List Row} {b t : Nat} {u v : Value} (H : Held W0 w (boxR2 b t u v :: L)) (u' : Value) : Held W0 (w.setCell ⟨b, 0, none⟩ u') (boxR2 b t u' v :: L) := by
  have hst := (H.own _ List.mem_cons_self).stored 0 u'
  exact H.write hst.2 hst.1
theorem Held.setB2b {W0 w : World} {L : List Row} {b t : Nat} {u v : Value} (H : Held W0 w (boxR2 b t u v :: L)) (v' : Value) : Held W0 (w.setCell ⟨b, 1, none⟩ v') (boxR2 b t u v' :: L) := by
  have hst := (H.own _ List.mem_cons_self).stored 1 v'
  exact H.write hst.2 hst.1
end
section
open Go.ChangeShapes Go.WideShapes Go.ChangeAt Go.RowKit
def tab (n : Nat) (f : Nat → Int) : List Int := (List.range n).map f
theorem tab_len (n : Nat) (f : Nat → Int) : (tab n f).length = n := by simp [tab]
theorem tab_nth {n : Nat} (f : Nat → Int) {k : Nat} (h : k < n) : nth (tab n f) k = f k := by simp [tab, nth, List.getD, h]
def upd (f : Nat → Int) (k : Nat) (x : Int) : Nat → Int := fun i => if i = k then x else f i
theorem tab_set (n : Nat) (f : Nat → Int) (k : Nat) (x : Int) : (tab n f).set k x = tab n (upd f k x) := by
  apply List.ext_getElem?
  intro i
  by_cases h : i < n
  · by_cases e : k = i
    · subst e; simp [tab, upd, h]
    · rw [List.getElem?_set_ne e]; simp [tab, upd, h, Ne.symm e]
  · rw [List.getElem?_eq_none (by simp [tab]; omega), List.getElem?_eq_none (by simp [tab]; omega)]
theorem tab_zero (n : Nat) : List.replicate n (iv 0) = (tab n fun _ => 0).map iv := by
  simp [tab, List.map_const']
theorem tab_set_iv (n : Nat) (f : Nat → Int) (k : Nat) (x : Int) : ((tab n f).map iv).set k (iv x) = (tab n (upd f k x)).map iv := by rw [← List.map_set, tab_set]
theorem Held.cellO {W0 w : World} {L : List Row} (H : Held W0 w L) {b o : Nat} {v : Value} (hb : Old W0 b) (hc : W0.cell? ⟨b, o, none⟩ = some v) : w.cell? ⟨b, o, none⟩ = some v := by
  rw [H.bel.cell (p := ⟨b, o, none⟩) hb.lt]; exact hc
theorem Held.cellRow {W0 w : World} {L : List Row} {g cap n : Nat} {f : Nat → Int} (H : Held W0 w (rowI (.slice (some ⟨g, 0, none⟩) n cap) (tab n f) :: L)) {j : Nat} (hj : j < n) : w.cell? ⟨g, j, none⟩ = some (.int .i64 (f j)) ∧ w.frozen? ⟨g, j, none⟩ = false := by
  have ho := H.own _ List.mem_cons_self
  simp only [tab_len] at ho
  refine ⟨?_, ho.frozenAt j⟩
  rw [ho.cellAt j (by omega)]
  simp [tab, hj, iv]
theorem Held.storeRow {W0 w : World} {L : List Row} {g cap n : Nat} {f : Nat → Int} (H : Held W0 w (rowI (.slice (some ⟨g, 0, none⟩) n cap) (tab n f) :: L)) (j : Nat) (x : Int) : Held W0 (w.setCell ⟨g, j, none⟩ (.int .i64 x)) (rowI (.slice (some ⟨g, 0, none⟩) n cap) (tab n (upd f j x)) :: L) := by
  have H' : Held W0 w ((⟨.slice (some ⟨g, 0, none⟩) n cap, 3, 1, n, (tab n f).map iv⟩ : Row) :: L) := by
    simp only [rowI, tab_len] at H
    exact H
  have hst := (H'.own _ List.mem_cons_self).stored j (.int .i64 x)
  have h4 := H'.write hst.2 hst.1
  have e : ((tab n f).map iv).set j (.int .i64 x) = (tab n (upd f j x)).map iv := tab_set_iv n f j x
  rw [e] at h4
  rw [rowI, tab_len]
  exact h4
theorem Held.zeros {W0 w : World} {L : List Row} {g n : Nat} (H : Held W0 w (⟨.slice (some ⟨g, 0, none⟩) n n, 3, 1, n, (madeCells (Value.int .i64 0).cells (n * 1)).toList⟩ :: L)) : Held W0 w (rowI (.slice (some ⟨g, 0, none⟩) n n) (tab n fun _ => 0) :: L) := by
  have hz : (madeCells (Value.int .i64 0).cells (n * 1)).toList = (tab n fun _ => 0).map iv := by rw [Nat.mul_one]; exact (madeOne _ _).trans (tab_zero _)
  rw [hz] at H
  rw [rowI, tab_len]; exact H
theorem tab_nths (xs : List Int) : tab xs.length (nth xs) = xs := by
  apply List.ext_getElem
  · simp [tab]
  · intro i h1 h2
    simp [tab, nth, List.getD, h2]
abbrev rowT (g N : Nat) (f : Nat → Int) : Row := rowI (.slice (some ⟨g, 0, none⟩) N N) (tab N f)
end
section
open Go.ChangeShapes Go.WideShapes Go.ChangeAt Go.RowKit
def btw (n lo hi : Int) : Bool := decide (lo ≤ n) && decide (n ≤ hi)
theorem btw_iff {n lo hi : Int} : btw n lo hi = true ↔ lo ≤ n ∧ n ≤ hi := by simp [btw]
theorem between_any (n lo hi : Int) (w : World) : Calls Tryz.prog 104 #[.int .i64 n, .int .i64 lo, .int .i64 hi] w fun e w' => e = .returned (.bool (btw n lo hi)) ∧ ∃ x, w' = ext w x := by
  by_cases h1 : lo ≤ n <;> by_cases h2 : n ≤ hi
  all_goals
    go_enter Tryz.func104, Tryz.ntmps104
    go_wp2
    go_ret
    exact ⟨by simp [h1, h2, btw], ext_refl _⟩
theorem between_b (n lo hi : Int) (b : Bool) (h : btw n lo hi = b) (w : World) : Calls Tryz.prog 104 #[.int .i64 n, .int .i64 lo, .int .i64 hi] w fun e w' => e = .returned (.bool b) ∧ ∃ x, w' = ext w x := h ▸ between_any n lo hi w
theorem l1In_any (n lo hi : Int) (w : World) : Calls Tryz.prog 85 #[.int .i64 n, .int .i64 lo, .int .i64 hi] w fun e w' => e = .returned (.bool (btw n lo hi)) ∧ ∃ x, w' = ext w x := by
  by_cases h1 : lo ≤ n <;> by_cases h2 : n ≤ hi
  all_goals
    go_enter Tryz.func85, Tryz.ntmps85
    go_wp2
    go_ret
    exact ⟨by simp [h1, h2, btw], ext_refl _⟩
theorem l1In_b (n lo hi : Int) (b : Bool) (h : btw n lo hi = b) (w : World) : Calls Tryz.prog 85 #[.int .i64 n, .int .i64 lo, .int .i64 hi] w fun e w' => e = .returned (.bool b) ∧ ∃ x, w' = ext w x := h ▸ l1In_any n lo hi w
end
section
open Go.ChangeShapes Go.WideShapes Go.ChangeAt Go.RowKit
def cv (c : Int × Int) : List Value := [iv c.1, iv c.2]
def cx (cs : List (Int × Int)) (k : Nat) : Int := (cs.getD k (0, 0)).1
def cy (cs : List (Int × Int)) (k : Nat) : Int := (cs.getD k (0, 0)).2
/-- cs read from a slice of cells -/
def CellsAt (w : World) (v : Value) (cs : List (Int × Int)) : Prop := Sl w 2 v cs.length (cs.flatMap cv)
theorem CellsAt.mono {w w' : World} {v : Value} {cs : List (Int × Int)} (h : CellsAt w v cs) (hb : Below w.heap.size w w') : CellsAt w' v cs := Sl.mono h hb
theorem wmC {w w' : World} {v : Value} {cs : List (Int × Int)} (h : CellsAt w v cs) (k : ∃ x, w' = ext w x) : CellsAt w' v cs := h.mono (bel_of_ext k)
theorem flat_len (cs : List (Int × Int)) : (cs.flatMap cv).length = cs.length * 2 := by
  induction cs with
  | nil => rfl
  | cons c cs ih => simp [cv] at ih ⊢; omega
theorem flat_at (cs : List (Int × Int)) (k : Nat) (h : k < cs.length) : (cs.flatMap cv)[k * 2 + 0]? = some (.int .i64 (cx cs k)) ∧ (cs.flatMap cv)[k * 2 + 1]? = some (.int .i64 (cy cs k)) := by
  induction cs generalizing k with
  | nil => simp at h
  | cons c cs ih =>
    cases k with
    | zero => simp [cv, iv, cx, cy]
    | succ k =>
      have := ih k (by simpa using h)
      simp only [List.flatMap_cons, cv, List.cons_append, List.nil_append]
      rw [show (k + 1) * 2 + 0 = (k * 2 + 0) + 1 + 1 by omega, show (k + 1) * 2 + 1 = (k * 2 + 1) + 1 + 1 by omega]
      simpa [cx, cy] using this
theorem infoCell : (Tryz.prog.info? 95).map (fun i => i.size) = some 2 := by kernel_rfl
theorem infoCell3 : (Tryz.prog.info? 95).map (fun i => (i.zero, i.size, i.bytes)) = some (some (.agg #[.int .i64 0, .int .i64 0]), 2, 16) := by kernel_rfl
theorem CellsAt.opn {w : World} {v : Value} {cs : List (Int × Int)} (h : CellsAt w v cs) :
    ∃ a b o cap, v = .slice a cs.length cap ∧ cs.length ≤ cap ∧ cs.length ≤ 9223372036854775807 ∧ cap ≤ 9223372036854775807 ∧ ∀ k, k < cs.length → Old w b ∧ (∀ w', (Instr.indexAt 41 (.slice a cs.length cap) (.int .i64 k)).run Tryz.prog w' = .ok (.pointer (some ⟨b, o + k * 2, none⟩)) w') ∧
      w.cell? ⟨b, o + k * 2, none⟩ = some (.int .i64 (cx cs k)) ∧ w.cell? ⟨b, o + k * 2 + 1, none⟩ = some (.int .i64 (cy cs k)) := by
  obtain ⟨a, b, o, cap, rfl, h1, h2, h3, h4⟩ := Sl.idx h Tryz.underlying41 infoCell
  refine ⟨a, b, o, cap, rfl, h1, h2, h3, fun k hk => ?_⟩
  obtain ⟨g1, g2, g3⟩ := h4 k hk
  refine ⟨g1, g2, ?_, ?_⟩
  · have := g3 0 (by omega)
    rw [Nat.add_zero] at this
    rw [this]; exact (flat_at cs k hk).1
  · rw [g3 1 (by omega)]; exact (flat_at cs k hk).2
def bef (x y x' y' : Int) : Bool := decide (y < y') || (y == y' && decide (x < x'))
def onB (x y : Int) : Bool := btw x 0 7 && btw y 0 7
theorem before_any (x y x' y' : Int) (w : World) : Calls Tryz.prog 178 #[.agg #[.int .i64 x, .int .i64 y], .agg #[.int .i64 x', .int .i64 y']] w fun e w' => e = .returned (.bool (bef x y x' y')) ∧ ∃ x, w' = ext w x := by
  have HF := Lib.hid (show bef x y x' y' = (decide (y < y') || (y == y' && decide (x < x'))) from rfl)
  by_cases h1 : y < y'
  · go_enter Tryz.func178, Tryz.ntmps178
    go_wp2_with fail
    go_ret
    exact ⟨ret_bool (by rw [HF.out]; simp [h1]), (by repeat first | apply wxr | with_reducible assumption | apply wxe | apply wxa | apply wxd)⟩
  by_cases h2 : y = y'
  · by_cases h3 : x < x'
    all_goals
      have h2' : (y == y') = true := beq_iff_eq.2 h2
      have H2 := Lib.hid h2
      clear h2
      go_enter Tryz.func178, Tryz.ntmps178
      go_wp2_with fail
      go_ret
      exact ⟨ret_bool (by rw [HF.out]; simp [H2.out, h3]), (by repeat first | apply wxr | with_reducible assumption | apply wxe | apply wxa | apply wxd)⟩
  · have h2' : (y == y') = false := beq_eq_false_iff_ne.2 h2
    have H2 := Lib.hid h2
    clear h2
    go_enter Tryz.func178, Tryz.ntmps178
    go_wp2_with fail
    go_ret
    exact ⟨ret_bool (by rw [HF.out]; simp [H2.out, h1]), (by repeat first | apply wxr | with_reducible assumption | apply wxe | apply wxa | apply wxd)⟩
theorem onBoard_any (x y : Int) (w : World) : Calls Tryz.prog 177 #[.agg #[.int .i64 x, .int .i64 y]] w fun e w' => e = .returned (.bool (onB x y)) ∧ ∃ x, w' = ext w x := by
  have HF := Lib.hid (show onB x y = (btw x 0 7 && btw y 0 7) from rfl)
  cases h1 : btw x 0 7
  · go_enter Tryz.func177, Tryz.ntmps177
    go_wp2_with (first | (go_at_call 104; refine (between_b _ _ _ _ h1 _).mono ?_; rintro e w' ⟨rfl, xe, rfl⟩))
    go_ret
    exact ⟨ret_bool (by rw [HF.out, h1]; rfl), (by repeat first | apply wxr | with_reducible assumption | apply wxe | apply wxa | apply wxd)⟩
  cases h2 : btw y 0 7
  all_goals
    go_enter Tryz.func177, Tryz.ntmps177
    go_wp2_with (first | (go_at_call 104; refine (between_any _ _ _ _).mono ?_; rintro e w' ⟨rfl, xe, rfl⟩))
    go_ret
    exact ⟨ret_bool (by rw [HF.out, h1, h2]; rfl), (by repeat first | apply wxr | with_reducible assumption | apply wxe | apply wxa | apply wxd)⟩
theorem l2Before_any (x y x' y' : Int) (w : World) : Calls Tryz.prog 168 #[.agg #[.int .i64 x, .int .i64 y], .agg #[.int .i64 x', .int .i64 y']] w fun e w' => e = .returned (.bool (bef x y x' y')) ∧ ∃ x, w' = ext w x := by
  have HF := Lib.hid (show bef x y x' y' = (decide (y < y') || (y == y' && decide (x < x'))) from rfl)
  by_cases h1 : y < y'
  · go_enter Tryz.func168, Tryz.ntmps168
    go_wp2_with fail
    go_ret
    exact ⟨ret_bool (by rw [HF.out]; simp [h1]), (by repeat first | apply wxr | with_reducible assumption | apply wxe | apply wxa | apply wxd)⟩
  by_cases h2 : y = y'
  · by_cases h3 : x < x'
    all_goals
      have h2' : (y == y') = true := beq_iff_eq.2 h2
      have H2 := Lib.hid h2
      clear h2
      go_enter Tryz.func168, Tryz.ntmps168
      go_wp2_with fail
      go_ret
      exact ⟨ret_bool (by rw [HF.out]; simp [H2.out, h3]), (by repeat first | apply wxr | with_reducible assumption | apply wxe | apply wxa | apply wxd)⟩
  · have h2' : (y == y') = false := beq_eq_false_iff_ne.2 h2
    have H2 := Lib.hid h2
    clear h2
    go_enter Tryz.func168, Tryz.ntmps168
    go_wp2_with fail
    go_ret
    exact ⟨ret_bool (by rw [HF.out]; simp [H2.out, h1]), (by repeat first | apply wxr | with_reducible assumption | apply wxe | apply wxa | apply wxd)⟩
end
section
open Go.ChangeShapes Go.WideShapes Go.ChangeAt Go.RowKit
abbrev OwnC (w : World) (B : Nat) (v : Value) (cs : List (Int × Int)) : Prop := w.ownsRow B 95 2 v cs.length (cs.flatMap cv)
def partC (cs : List (Int × Int)) (k : Nat) : List Value := (cs.take k).flatMap cv ++ List.replicate ((cs.length - k) * 2) (iv 0)
def eqc (x y x' y' : Int) : Bool := (x == x') && (y == y')
def eqCells (a b : List (Int × Int)) : Bool := decide (a.length = b.length) && allTo (fun k => eqc (cx a k) (cy a k) (cx b k) (cy b k)) a.length
theorem eqCells_self (a : List (Int × Int)) : eqCells a a = true := by simp [eqCells, allTo_true, eqc]
end
section
open Go.ChangeShapes Go.WideShapes Go.ChangeAt Go.RowKit
abbrev rowC (v : Value) (cs : List (Int × Int)) : Row := ⟨v, 95, 2, cs.length, cs.flatMap cv⟩
theorem elemCell : Elem Tryz.prog 41 95 2 16 (.agg #[.int .i64 0, .int .i64 0]) := ⟨Tryz.underlying41, infoCell3, rfl, by decide⟩
theorem Sl_cell (w : World) (x y : Int) (t : TypeId) : Sl (w.alloc (.cells #[.int .i64 x, .int .i64 y] t)) 2 (.slice (some ⟨w.heap.size, 0, none⟩) 1 1) 1 [.int .i64 x, .int .i64 y] :=
  Sl_new w #[.int .i64 x, .int .i64 y] t 2 1 rfl (by simp [maxLen]) (by omega)
theorem one_cell (x y : Int) : ∀ u ∈ [Value.int .i64 x, Value.int .i64 y], u.oneCell' = true := by
  intro u hu
  simp at hu
  rcases hu with rfl | rfl <;> rfl
theorem Held.cells {W0 w : World} {L : List Row} (H : Held W0 w L) {v : Value} {cs : List (Int × Int)} (h : rowC v cs ∈ L) : CellsAt w v cs := H.sl h
theorem Held.cells0 {W0 w : World} {L : List Row} {v : Value} {cs : List (Int × Int)} (H : Held W0 w (rowC v cs :: L)) : CellsAt w v cs := H.sl List.mem_cons_self
theorem Held.rowCV {W0 w : World} {L : List Row} {v : Value} {cs : List (Int × Int)} (H : Held W0 w (rowC v cs :: L)) : ∃ a c, v = .slice a cs.length c := own_slice (H.own _ List.mem_cons_self)
theorem Held.nilC {W0 w : World} {L : List Row} (H : Held W0 w L) : Held W0 w (rowC (.slice none 0 0) [] :: L) := ⟨H.bel, (fun r hr => by
    rcases List.mem_cons.1 hr with rfl | hr
    · exact World.ownsRow_nil _ _ _ _
    · exact H.own r hr), List.Pairwise.cons (fun r hr g hg => by cases hg) H.apart⟩
theorem Held.snocC {W0 w : World} {L : List Row} {v : Value} {cs : List (Int × Int)} {x y : Int} (H : Held W0 w (⟨v, 95, 2, cs.length + 1, cs.flatMap cv ++ [.int .i64 x, .int .i64 y]⟩ :: L)) : Held W0 w (rowC v (cs ++ [(x, y)]) :: L) := by
  rw [rowC, List.flatMap_append, List.length_append]
  exact H
/-- a fresh slice of cells -/
def CellsPost (w : World) (cs : List (Int × Int)) (e : Ending) (w' : World) : Prop := ∃ v', e = .returned v' ∧ Held w w' [rowC v' cs]
theorem CellsPost.nil {w w' : World} {cs : List (Int × Int)} (h : cs = []) (hx : ∃ x, w' = ext w x) : CellsPost w cs (.returned (.slice none 0 0)) w' := by
  subst h; exact ⟨_, rfl, ((Held.start w).to hx).nilC⟩
theorem CellsPost.empty {w w' : World} {cs : List (Int × Int)} {v : Value} {L : List Row} (h : cs = []) (H : Held w w' (⟨v, 95, 2, 0, []⟩ :: L)) : CellsPost w cs (.returned v) w' := by
  subst h; exact ⟨_, rfl, H.first⟩
theorem CellsPost.got {w w' : World} {cs ds : List (Int × Int)} {v : Value} {L : List Row} (h : cs = ds) (H : Held w w' (rowC v ds :: L)) : CellsPost w cs (.returned v) w' := by
  subst h; exact ⟨_, rfl, H.first⟩
end
section
open Go.ChangeShapes Go.WideShapes Go.ChangeAt Go.RowKit
section
variable {H : Type} {enc : TypeId × Value → H} {W : World} {base : Nat}
end
end
section
open Go.ChangeShapes Go.WideShapes Go.ChangeAt Go.RowKit
def szLeftI (n : Nat) (left : Int) : Int := if left - n < 0 then -1 else left - n
end
section
open Go.ChangeShapes Go.WideShapes Go.ChangeAt Go.RowKit
def RegionAt (w : World) (v : Value) (r : Int × List Int) : Prop := ∃ u, v = .agg #[.int .i64 r.1, u] ∧ IntsAt w u r.2
end
section
open Go.ChangeShapes Go.WideShapes Go.ChangeAt Go.RowKit
def vAt (vs : List Value) (k : Nat) : Value := vs.getD k undef
def rAt (xss : List (List Int)) (k : Nat) : List Int := xss.getD k []
def RowsAt (w : World) (v : Value) (xss : List (List Int)) : Prop :=
  ∃ vs : List Value, Sl w 1 v xss.length vs ∧ ∀ k, k < xss.length → IntsAt w (vAt vs k) (rAt xss k)
theorem RowsAt.mono {w w' : World} {v : Value} {xss : List (List Int)} (h : RowsAt w v xss) (hb : Below w.heap.size w w') : RowsAt w' v xss := by
  obtain ⟨vs, h1, h2⟩ := h
  exact ⟨vs, h1.mono hb, fun k hk => (h2 k hk).mono hb⟩
theorem wmW {w w' : World} {v : Value} {xss : List (List Int)} (h : RowsAt w v xss) (k : ∃ x, w' = ext w x) : RowsAt w' v xss := h.mono (bel_of_ext k)
theorem infoInts : (Tryz.prog.info? 24).map (fun i => i.size) = some 1 := by kernel_rfl
theorem RowsAt.opn {w : World} {v : Value} {xss : List (List Int)} (h : RowsAt w v xss) :
    ∃ a b o cap vs, v = .slice a xss.length cap ∧ xss.length ≤ cap ∧ xss.length ≤ 9223372036854775807 ∧ cap ≤ 9223372036854775807 ∧ ∀ k, k < xss.length → Old w b ∧ (∀ w', (Instr.indexAt 120 (.slice a xss.length cap) (.int .i64 k)).run Tryz.prog w' = .ok (.pointer (some ⟨b, o + k, none⟩)) w') ∧
      w.cell? ⟨b, o + k, none⟩ = some (vAt vs k) ∧ IntsAt w (vAt vs k) (rAt xss k) := by
  obtain ⟨vs, h0, hr⟩ := h
  have hlen : vs.length = xss.length := by obtain ⟨_, _, _, _, _, _, _, h3, _⟩ := h0; simpa using h3
  obtain ⟨a, b, o, cap, rfl, h1, h2, h3, h4⟩ := Sl.idx h0 Tryz.underlying120 infoInts
  refine ⟨a, b, o, cap, vs, rfl, h1, h2, h3, fun k hk => ?_⟩
  obtain ⟨g1, g2, g3⟩ := h4 k hk
  refine ⟨g1, fun w' => by have := g2 w'; rwa [Nat.mul_one] at this, ?_, hr k hk⟩
  have := g3 0 (by omega)
  rw [Nat.mul_one, Nat.add_zero, Nat.add_zero] at this
  rw [this, vAt, List.getD, List.getElem?_eq_getElem (by omega)]
  rfl
/-- inner rows -/
def rowsI (vs : List Value) (xss : List (List Int)) : List Row := List.zipWith rowI vs xss
theorem rowsI_snoc (vs : List Value) (xss : List (List Int)) (v : Value) (xs : List Int) (h : vs.length = xss.length) : rowsI (vs ++ [v]) (xss ++ [xs]) = rowsI vs xss ++ [rowI v xs] := by
  simp [rowsI, List.zipWith_append h]
theorem rowsI_mem {vs : List Value} {xss : List (List Int)} {k : Nat} (h : vs.length = xss.length) (hk : k < xss.length) : rowI (vAt vs k) (rAt xss k) ∈ rowsI vs xss := by
  have h1 : k < vs.length := by omega
  have : (rowsI vs xss)[k]? = some (rowI (vAt vs k) (rAt xss k)) := by
    simp [rowsI, List.getElem?_zipWith, vAt, rAt, List.getD, h1, hk]
  exact List.mem_of_getElem? this
/-- a slice of rows that the call has made: the outer row and the inner ones -/
def grpR (v : Value) (vs : List Value) (xss : List (List Int)) : List Row := ⟨v, 24, 1, xss.length, vs⟩ :: rowsI vs xss
abbrev grpI (v : Value) (xs : List Int) : List Row := [rowI v xs]
/-! ### groups -/
def HeldG (W0 w : World) (G : List (List Row)) : Prop := Held W0 w G.flatten
theorem HeldG.start (w : World) : HeldG w w [] := Held.start w
theorem HeldG.bel {W0 w : World} {G : List (List Row)} (H : HeldG W0 w G) : Below W0.heap.size W0 w := Held.bel H
theorem HeldG.ext {W0 w : World} {G : List (List Row)} (H : HeldG W0 w G) (x : Ext) : HeldG W0 (ext w x) G := Held.ext H x
theorem HeldG.to {W0 w w' : World} {G : List (List Row)} (H : HeldG W0 w G) (h : ∃ x, w' = Proofs.YtchcepihmphdmaaGreatDoor.ext w x) : HeldG W0 w' G := Held.to H h
theorem HeldG.push {W0 w w' : World} {G : List (List Row)} {g : List Row} (H : HeldG W0 w G) (K : Held w w' g) : HeldG W0 w' (g :: G) := Held.join H K
theorem HeldG.pull {W0 w : World} {G : List (List Row)} {g : List Row} (H : HeldG W0 w G) (i : Nat) (h : G[i]? = some g) : HeldG W0 w (g :: G.eraseIdx i) := Held.front H (perm_pull G i h).flatten
theorem HeldG.row {W0 w : World} {G : List (List Row)} (H : HeldG W0 w G) {g : List Row} {v : Value} {e sz n : Nat} {cs : List Value} (hg : g ∈ G) (hr : (⟨v, e, sz, n, cs⟩ : Row) ∈ g) : Sl w sz v n cs := Held.sl H (List.mem_flatten.2 ⟨g, hg, hr⟩)
theorem HeldG.ints {W0 w : World} {G : List (List Row)} (H : HeldG W0 w G) {v : Value} {xs : List Int} (hg : grpI v xs ∈ G) : IntsAt w v xs := H.row hg List.mem_cons_self
theorem HeldG.rows {W0 w : World} {G : List (List Row)} (H : HeldG W0 w G) {v : Value} {vs : List Value} {xss : List (List Int)} (hl : vs.length = xss.length) (hg : grpR v vs xss ∈ G) : RowsAt w v xss :=
  ⟨vs, H.row hg List.mem_cons_self, fun _ hk => H.row hg (List.mem_cons_of_mem _ (rowsI_mem hl hk))⟩
theorem Held.rows {W0 w : World} {L : List Row} {v : Value} {vs : List Value} {xss : List (List Int)} (H : Held W0 w (grpR v vs xss ++ L)) (hl : vs.length = xss.length) : RowsAt w v xss :=
  ⟨vs, Held.sl H (List.mem_append_left _ List.mem_cons_self), fun _ hk => Held.sl H (List.mem_append_left _ (List.mem_cons_of_mem _ (rowsI_mem hl hk)))⟩
theorem HeldG.rows2 {W0 w : World} {G : List (List Row)} (H : HeldG W0 w G) {v : Value} {vs : List Value} {xss : List (List Int)} (hg : grpR v vs xss ∈ G) (hl : vs.length = xss.length) : RowsAt w v xss := H.rows hl hg
/-! ### reading, comparing, measuring -/
def eqRows (a b : List (List Int)) : Bool := decide (a.length = b.length) && allTo (fun k => eqInts (rAt a k) (rAt b k)) a.length
/-! ### marks -/
def sumLen (xss : List (List Int)) : Nat → Nat := iter (fun i n => n + (rAt xss i).length) 0
/-- the first j rows marked -/
def mixR (k : Int) (xss : List (List Int)) : Nat → List (List Int) := iter (fun j yss => yss.set j (marks (k + (sumLen xss j : Nat)) (rAt xss j).length)) xss
def marksR (k : Int) (xss : List (List Int)) : List (List Int) := mixR k xss xss.length
def total (xss : List (List Int)) : Nat := sumLen xss xss.length
end
section
open Go.ChangeShapes Go.WideShapes Go.ChangeAt Go.RowKit
theorem flat_set (cs : List (Int × Int)) (i : Nat) (x y : Int) : ((cs.flatMap cv).set (i * 2) (iv x)).set (i * 2 + 1) (iv y) = (cs.set i (x, y)).flatMap cv := by
  induction cs generalizing i with
  | nil => simp
  | cons c cs ih =>
    cases i with
    | zero => simp [cv]
    | succ i =>
      rw [show (i + 1) * 2 = i * 2 + 1 + 1 by omega]
      simp only [List.flatMap_cons, cv, List.cons_append, List.nil_append, List.set_cons_succ]
      rw [ih]
theorem Held.putC {W0 w : World} {L : List Row} {g n cap : Nat} {cs : List (Int × Int)} (H : Held W0 w (rowC (.slice (some ⟨g, 0, none⟩) n cap) cs :: L)) (i : Nat) (x y : Int) :
    Held W0 ((w.setCell ⟨g, i * 2, none⟩ (.int .i64 x)).setCell ⟨g, i * 2 + 1, none⟩ (.int .i64 y)) (rowC (.slice (some ⟨g, 0, none⟩) n cap) (cs.set i (x, y)) :: L) := by
  have hn : cs.length = n := by
    rcases (H.own _ List.mem_cons_self).2 with ⟨hv, _⟩ | ⟨g', cap', cur, hv, _⟩
    · cases hv
    · simp only [Value.slice.injEq] at hv; exact hv.2.1.symm
  subst hn
  have hown := H.own _ List.mem_cons_self
  simp only at hown
  have hst := hown.stored (i * 2) (.int .i64 x)
  have hst2 := hst.1.stored (i * 2 + 1) (.int .i64 y)
  have H2 := (H.write hst.2 hst.1).write hst2.2 hst2.1
  have e : ((cs.flatMap cv).set (i * 2) (Value.int .i64 x)).set (i * 2 + 1) (.int .i64 y) = (cs.set i (x, y)).flatMap cv := flat_set cs i x y
  rw [e] at H2
  rw [rowC, List.length_set]
  exact H2
theorem Held.cellC {W0 w : World} {L : List Row} {g n cap : Nat} {cs : List (Int × Int)} (H : Held W0 w (rowC (.slice (some ⟨g, 0, none⟩) n cap) cs :: L)) {i : Nat} (hi : i < cs.length) :
    w.cell? ⟨g, i * 2, none⟩ = some (.int .i64 (cx cs i)) ∧ w.cell? ⟨g, i * 2 + 1, none⟩ = some (.int .i64 (cy cs i)) ∧ ∀ k, w.frozen? ⟨g, k, none⟩ = false := by
  have hn : cs.length = n := by
    rcases (H.own _ List.mem_cons_self).2 with ⟨hv, _⟩ | ⟨g', cap', cur, hv, _⟩
    · cases hv
    · simp only [Value.slice.injEq] at hv; exact hv.2.1.symm
  subst hn
  have hown := H.own _ List.mem_cons_self
  simp only at hown
  have hf := flat_at cs i hi
  have hl := flat_len cs
  refine ⟨?_, ?_, fun k => hown.frozenAt k⟩
  · rw [hown.cellAt (i * 2) (by omega)]; exact hf.1
  · rw [hown.cellAt (i * 2 + 1) (by omega)]; exact hf.2
end
section
open Go.ChangeShapes Go.WideShapes Go.ChangeAt Go.RowKit
structure Strict {α : Type} (lt : α → α → Bool) : Prop where
  irr : ∀ a, lt a a = false
  trans : ∀ a b c, lt a b = true → lt b c = true → lt a c = true
  tot : ∀ a b, lt a b = false → lt b a = false → a = b
theorem Strict.asym {α : Type} {lt : α → α → Bool} (S : Strict lt) {a b : α} (h : lt a b = true) : lt b a = false := by
  cases h2 : lt b a
  · rfl
  · have := S.trans _ _ _ h h2
    rw [S.irr] at this; cases this
def Asc {α : Type} (lt : α → α → Bool) (l : List α) : Prop := l.Pairwise fun a b => lt a b = true
def putL {α : Type} (lt : α → α → Bool) (x : α) : List α → List α
  | [] => [x]
  | y :: l => if lt x y then x :: y :: l else if lt y x then y :: putL lt x l else y :: l
theorem mem_putL {α : Type} {lt : α → α → Bool} (S : Strict lt) {x z : α} {l : List α} : z ∈ putL lt x l ↔ z = x ∨ z ∈ l := by
  induction l with
  | nil => simp [putL]
  | cons y l ih =>
    simp only [putL]
    split
    · simp
    · split
      · simp only [List.mem_cons, ih]
        constructor
        · rintro (h | h | h) <;> simp [h]
        · rintro (h | h | h) <;> simp [h]
      · rename_i h1 h2
        have e : x = y := S.tot _ _ (by simpa using h1) (by simpa using h2)
        subst e
        simp
theorem asc_putL {α : Type} {lt : α → α → Bool} (S : Strict lt) {x : α} {l : List α} (h : Asc lt l) : Asc lt (putL lt x l) := by
  induction l with
  | nil => simp [putL, Asc]
  | cons y l ih =>
    have h' := List.pairwise_cons.1 h
    simp only [putL]
    split
    · rename_i h1
      refine List.pairwise_cons.2 ⟨fun z hz => ?_, h⟩
      rcases List.mem_cons.1 hz with rfl | hz
      · exact h1
      · exact S.trans _ _ _ h1 (h'.1 z hz)
    · split
      · rename_i h1 h2
        refine List.pairwise_cons.2 ⟨fun z hz => ?_, ih h'.2⟩
        rcases (mem_putL S).1 hz with rfl | hz
        · exact h2
        · exact h'.1 z hz
      · exact h
theorem asc_unique {α : Type} {lt : α → α → Bool} (S : Strict lt) : ∀ {l l' : List α}, Asc lt l → Asc lt l' → (∀ z, z ∈ l ↔ z ∈ l') → l = l'
  | [], [], _, _, _ => rfl
  | [], b :: l', _, _, h => absurd ((h b).2 List.mem_cons_self) (by simp)
  | a :: l, [], _, _, h => absurd ((h a).1 List.mem_cons_self) (by simp)
  | a :: l, b :: l', h1, h2, h => by
    have k1 := List.pairwise_cons.1 h1
    have k2 := List.pairwise_cons.1 h2
    have e : a = b := by
      rcases List.mem_cons.1 ((h a).1 List.mem_cons_self) with e | ha
      · exact e
      · rcases List.mem_cons.1 ((h b).2 List.mem_cons_self) with e | hb
        · exact e.symm
        · have q1 := k2.1 a ha
          have q2 := k1.1 b hb
          rw [S.asym q1] at q2; cases q2
    subst e
    have e2 : l = l' := asc_unique S k1.2 k2.2 fun z => by
      constructor
      · intro hz
        rcases List.mem_cons.1 ((h z).1 (List.mem_cons_of_mem _ hz)) with e | hz'
        · subst e; have := k1.1 z hz; rw [S.irr] at this; cases this
        · exact hz'
      · intro hz
        rcases List.mem_cons.1 ((h z).2 (List.mem_cons_of_mem _ hz)) with e | hz'
        · subst e; have := k2.1 z hz; rw [S.irr] at this; cases this
        · exact hz'
    rw [e2]
def sortL {α : Type} (lt : α → α → Bool) (xs : List α) : List α := xs.foldl (fun l x => putL lt x l) []
theorem foldl_putL {α : Type} {lt : α → α → Bool} (S : Strict lt) (xs : List α) : ∀ l, Asc lt l → Asc lt (xs.foldl (fun l x => putL lt x l) l) ∧ ∀ z, z ∈ xs.foldl (fun l x => putL lt x l) l ↔ z ∈ xs ∨ z ∈ l := by
  induction xs with
  | nil => intro l h; exact ⟨h, fun z => by simp⟩
  | cons x xs ih =>
    intro l h
    obtain ⟨h1, h2⟩ := ih (putL lt x l) (asc_putL S h)
    refine ⟨h1, fun z => ?_⟩
    rw [List.foldl_cons, h2, mem_putL S, List.mem_cons]
    constructor
    · rintro (h | h | h) <;> simp [h]
    · rintro ((h | h) | h) <;> simp [h]
theorem asc_sortL {α : Type} {lt : α → α → Bool} (S : Strict lt) (xs : List α) : Asc lt (sortL lt xs) := (foldl_putL S xs [] List.Pairwise.nil).1
theorem mem_sortL {α : Type} {lt : α → α → Bool} (S : Strict lt) {xs : List α} {z : α} : z ∈ sortL lt xs ↔ z ∈ xs := by
  have := (foldl_putL S xs [] List.Pairwise.nil).2 z
  simpa [sortL] using this
theorem sortL_snoc {α : Type} (lt : α → α → Bool) (xs : List α) (x : α) : sortL lt (xs ++ [x]) = putL lt x (sortL lt xs) := by simp [sortL]
theorem sortL_eq {α : Type} {lt : α → α → Bool} (S : Strict lt) {xs l : List α} (h : Asc lt l) (hm : ∀ z, z ∈ l ↔ z ∈ xs) : l = sortL lt xs :=
  asc_unique S h (asc_sortL S xs) fun z => by rw [mem_sortL S, hm]
theorem sortL_asc {α : Type} {lt : α → α → Bool} (S : Strict lt) {xs : List α} (h : Asc lt xs) : sortL lt xs = xs := (sortL_eq S h fun _ => Iff.rfl).symm
theorem putL_len {α : Type} (lt : α → α → Bool) (x : α) (l : List α) : (putL lt x l).length ≤ l.length + 1 := by
  induction l with
  | nil => simp [putL]
  | cons y l ih =>
    simp only [putL]
    split
    · simp
    · split
      · simp; exact ih
      · simp
theorem sortL_len {α : Type} (lt : α → α → Bool) (xs : List α) : (sortL lt xs).length ≤ xs.length := by
  suffices h : ∀ l, (xs.foldl (fun l x => putL lt x l) l).length ≤ xs.length + l.length by simpa [sortL] using h []
  induction xs with
  | nil => intro l; simp
  | cons x xs ih =>
    intro l
    have h1 := ih (putL lt x l)
    have h2 := putL_len lt x l
    simp only [List.foldl_cons, List.length_cons]
    omega
theorem putL_in {α : Type} {lt : α → α → Bool} (S : Strict lt) {x : α} {l : List α} (h : Asc lt l) (hx : x ∈ l) : putL lt x l = l :=
  asc_unique S (asc_putL S h) h fun z => by
    rw [mem_putL S]
    constructor
    · rintro (rfl | h)
      · exact hx
      · exact h
    · exact .inr
theorem putL_at {α : Type} {lt : α → α → Bool} (S : Strict lt) {x : α} {l : List α} (h : Asc lt l) (k : Nat) (hlo : ∀ z ∈ l.take k, lt z x = true) (hhi : ∀ z ∈ l.drop k, lt x z = true) : putL lt x l = l.take k ++ x :: l.drop k := by
  refine asc_unique S (asc_putL S h) ?_ fun z => ?_
  · have h' : Asc lt (l.take k ++ l.drop k) := by rw [List.take_append_drop]; exact h
    obtain ⟨h1, h2, h3⟩ := List.pairwise_append.1 h'
    refine List.pairwise_append.2 ⟨h1, List.pairwise_cons.2 ⟨hhi, h2⟩, fun a ha b hb => ?_⟩
    rcases List.mem_cons.1 hb with rfl | hb
    · exact hlo a ha
    · exact h3 a ha b hb
  · rw [mem_putL S]
    have : z ∈ l ↔ z ∈ l.take k ∨ z ∈ l.drop k := by rw [← List.mem_append, List.take_append_drop]
    rw [this, List.mem_append, List.mem_cons]
    constructor
    · rintro (h | h | h) <;> simp [h]
    · rintro (h | h | h) <;> simp [h]
theorem lo_of {α : Type} {lt : α → α → Bool} (S : Strict lt) (d : α) {x : α} {l : List α} (h : Asc lt l) {k : Nat} (hk : k ≤ l.length) (h1 : k = 0 ∨ lt (l.getD (k - 1) d) x = true) : ∀ z ∈ l.take k, lt z x = true := by
  intro z hz
  obtain ⟨i, hi, rfl⟩ := List.getElem_of_mem hz
  rw [List.getElem_take]
  simp at hi
  rcases h1 with h1 | h1
  · omega
  · have e1 : l.getD (k - 1) d = l[k - 1]'(by omega) := by simp [List.getD, show k - 1 < l.length by omega]
    rw [e1] at h1
    by_cases hik : i = k - 1
    · subst hik; exact h1
    · exact S.trans _ _ _ ((List.pairwise_iff_getElem.1 h) i (k - 1) (by omega) (by omega) (by omega)) h1
theorem hi_of {α : Type} {lt : α → α → Bool} (S : Strict lt) (d : α) {x : α} {l : List α} (h : Asc lt l) {k : Nat} (h1 : k = l.length ∨ lt x (l.getD k d) = true) : ∀ z ∈ l.drop k, lt x z = true := by
  intro z hz
  obtain ⟨i, hi, rfl⟩ := List.getElem_of_mem hz
  rw [List.getElem_drop]
  simp at hi
  rcases h1 with h1 | h1
  · omega
  · have e1 : l.getD k d = l[k]'(by omega) := by simp [List.getD, show k < l.length by omega]
    rw [e1] at h1
    by_cases hi0 : i = 0
    · subst hi0; exact h1
    · exact S.trans _ _ _ h1 ((List.pairwise_iff_getElem.1 h) k (k + i) (by omega) (by omega) (by omega))
/-! ### once out of a row that is in order -/
def ddTo {α : Type} [DecidableEq α] (d : α) (l : List α) : Nat → List α := iter (fun i acc => if i = 0 ∨ l.getD (i - 1) d ≠ l.getD i d then acc ++ [l.getD i d] else acc) []
theorem ddTo_t {α : Type} [DecidableEq α] {d : α} {l : List α} {k : Nat} (h : k = 0 ∨ l.getD (k - 1) d ≠ l.getD k d) : ddTo d l (k + 1) = ddTo d l k ++ [l.getD k d] := by
  show (if k = 0 ∨ l.getD (k - 1) d ≠ l.getD k d then ddTo d l k ++ [l.getD k d] else ddTo d l k) = _
  rw [if_pos h]
theorem ddTo_f {α : Type} [DecidableEq α] {d : α} {l : List α} {k : Nat} (h0 : k ≠ 0) (h : l.getD (k - 1) d = l.getD k d) : ddTo d l (k + 1) = ddTo d l k := by
  show (if k = 0 ∨ l.getD (k - 1) d ≠ l.getD k d then ddTo d l k ++ [l.getD k d] else ddTo d l k) = _
  rw [if_neg (by simp only [not_or, Decidable.not_not]; exact ⟨h0, h⟩)]
theorem ddTo_len {α : Type} [DecidableEq α] (d : α) (l : List α) (k : Nat) : (ddTo d l k).length ≤ k := by
  induction k with
  | zero => simp [ddTo, iter]
  | succ k ih =>
    by_cases h : k = 0 ∨ l.getD (k - 1) d ≠ l.getD k d
    · rw [ddTo_t h]; simp; exact ih
    · simp only [not_or, Decidable.not_not] at h
      rw [ddTo_f h.1 h.2]; omega
theorem ddTo_sound {α : Type} [DecidableEq α] {lt : α → α → Bool} (S : Strict lt) (d : α) (l : List α) (hs : l.Pairwise fun a b => lt b a = false) : ∀ k, k ≤ l.length → Asc lt (ddTo d l k) ∧ (∀ z, z ∈ ddTo d l k ↔ z ∈ l.take k) := by
  intro k
  induction k with
  | zero => intro _; exact ⟨List.Pairwise.nil, fun z => by simp [ddTo, iter]⟩
  | succ k ih =>
    intro hk
    obtain ⟨i1, i2⟩ := ih (by omega)
    have ek : l.getD k d = l[k] := by simp [List.getD, show k < l.length by omega]
    have et : l.take (k + 1) = l.take k ++ [l[k]] := List.take_succ_eq_append_getElem (by omega)
    have hle : ∀ z ∈ l.take k, lt l[k] z = false := fun z hz => by
      obtain ⟨i, hi, rfl⟩ := List.getElem_of_mem hz
      rw [List.getElem_take]
      simp at hi
      exact (List.pairwise_iff_getElem.1 hs) i k (by omega) (by omega) (by omega)
    by_cases h : k = 0 ∨ l.getD (k - 1) d ≠ l.getD k d
    · rw [ddTo_t h, et, ek]
      refine ⟨List.pairwise_append.2 ⟨i1, by simp, fun a ha b hb => ?_⟩, fun z => by rw [List.mem_append, List.mem_append, i2]⟩
      have hb' : b = l[k] := by simpa using hb
      subst hb'
      have ha' := (i2 a).1 ha
      cases h4 : lt a l[k]
      · exfalso
        have e := S.tot _ _ h4 (hle a ha')
        rcases h with h | h
        · subst h; simp at ha'
        · apply h
          have hk0 : 0 < k := by
            rcases Nat.eq_zero_or_pos k with e0 | e0
            · subst e0; simp at ha'
            · exact e0
          have e1 : l.getD (k - 1) d = l[k - 1] := by simp [List.getD, show k - 1 < l.length by omega]
          rw [e1, ek]
          obtain ⟨i, hi, hia⟩ := List.getElem_of_mem ha'
          rw [List.getElem_take] at hia
          simp at hi
          have q2 : lt l[k] l[k - 1] = false := hle _ (by rw [List.mem_iff_getElem]; exact ⟨k - 1, by simp; omega, by rw [List.getElem_take]⟩)
          apply S.tot _ _ ?_ q2
          by_cases hik : i = k - 1
          · subst hik; rw [hia]; exact h4
          · have q1 := (List.pairwise_iff_getElem.1 hs) i (k - 1) (by omega) (by omega) (by omega)
            rw [hia, e] at q1
            exact q1
      · rfl
    · simp only [not_or, Decidable.not_not] at h
      rw [ddTo_f h.1 h.2, et]
      refine ⟨i1, fun z => ?_⟩
      have e1 : l.getD (k - 1) d = l[k - 1]'(by omega) := by simp [List.getD, show k - 1 < l.length by omega]
      rw [List.mem_append, i2]
      constructor
      · exact .inl
      · rintro (hz | hz)
        · exact hz
        · have : z = l[k] := by simpa using hz
          rw [this, ← ek, ← h.2, e1, List.mem_iff_getElem]
          exact ⟨k - 1, by simp; omega, by rw [List.getElem_take]⟩
theorem dd_sort {α : Type} [DecidableEq α] {lt : α → α → Bool} (S : Strict lt) (d : α) {l xs : List α} (hs : l.Pairwise fun a b => lt b a = false) (hp : ∀ z, z ∈ l ↔ z ∈ xs) : ddTo d l l.length = sortL lt xs := by
  obtain ⟨h1, h2⟩ := ddTo_sound S d l hs l.length (Nat.le_refl _)
  exact sortL_eq S h1 fun z => by rw [h2, List.take_length, hp]
end
section
open Go.ChangeShapes Go.WideShapes Go.ChangeAt Go.RowKit
def shapeAt (cs : List (Int × Int)) (k : Nat) : Bool := onB (cx cs k) (cy cs k) && (k == 0 || bef (cx cs (k - 1)) (cy cs (k - 1)) (cx cs k) (cy cs k))
def shapeB (cs : List (Int × Int)) : Bool := allTo (shapeAt cs) cs.length && btw cs.length 1 8
theorem shapeB_no {cs : List (Int × Int)} {k : Nat} (h : k < cs.length) (hk : shapeAt cs k = false) : shapeB cs = false := by
  simp [shapeB, allTo_false h hk]
theorem shapeAt_off {cs : List (Int × Int)} {k : Nat} (h : onB (cx cs k) (cy cs k) = false) : shapeAt cs k = false := by simp [shapeAt, h]
theorem shapeAt_zero {cs : List (Int × Int)} {k : Nat} (h : onB (cx cs k) (cy cs k) = true) (hk : k = 0) : shapeAt cs k = true := by subst hk; simp [shapeAt, h]
theorem shapeAt_pos {cs : List (Int × Int)} {k : Nat} (h : onB (cx cs k) (cy cs k) = true) (hk : k ≠ 0) {b : Bool} (hb : bef (cx cs (k - 1)) (cy cs (k - 1)) (cx cs k) (cy cs k) = b) : shapeAt cs k = b := by simp [shapeAt, h, hk, hb]
theorem before_b (x y x' y' : Int) (b : Bool) (h : bef x y x' y' = b) (w : World) : Calls Tryz.prog 178 #[.agg #[.int .i64 x, .int .i64 y], .agg #[.int .i64 x', .int .i64 y']] w fun e w' => e = .returned (.bool b) ∧ ∃ x, w' = ext w x := h ▸ before_any x y x' y' w
theorem onBoard_b (x y : Int) (b : Bool) (h : onB x y = b) (w : World) : Calls Tryz.prog 177 #[.agg #[.int .i64 x, .int .i64 y]] w fun e w' => e = .returned (.bool b) ∧ ∃ x, w' = ext w x := h ▸ onBoard_any x y w
theorem isShape_any (cs : List (Int × Int)) (v : Value) (w : World) (h : CellsAt w v cs) :
    Calls Tryz.prog 154 #[v] w fun e w' => e = .returned (.bool (shapeB cs)) ∧ ∃ x, w' = ext w x := by
  obtain ⟨a, b, o, cap, rfl, hc1, hc2, hc3, hcell⟩ := h.opn
  go_enter Tryz.func154, Tryz.ntmps154
  go_wp2_with fail
  go_loopw [7] (fun i wr => ∃ k : Nat, k ≤ cs.length ∧ i = .int .i64 k ∧ allTo (shapeAt cs) k = true ∧ ∃ x, wr = ext w x) (fun i _ => cs.length - (intOf i).toNat)
  case atStart => exact ⟨0, Nat.zero_le _, rfl, rfl, (by repeat first | apply wxr | with_reducible assumption | apply wxe | apply wxa | apply wxd)⟩
  case round =>
    obtain ⟨k, hk, rfl, hall, x, rfl⟩ := hrel
    have HA := Lib.hid hall
    clear hall
    by_cases hlt : k < cs.length
    · obtain ⟨hb, hi, hcx, hcy⟩ := hcell k hlt
      cases hon : onB (cx cs k) (cy cs k)
      · clear hcell
        go_wp2_with fail
        refine wp_region_ext_lit (by kernel_rfl) (by kernel_rfl) ?_
        repeat (go_big_quiet_step ((first | (go_at_call 177; first | exact Calls_ext_of2 (onBoard_b _ _ _ hon _) | exact Calls_ext_of (onBoard_b _ _ _ hon _)))))
        refine wpQuiet_nil ?_
        intro _ hwq
        obtain ⟨xq, hwq⟩ := hwq
        subst hwq
        go_wp2_with fail
        go_ret
        exact ⟨ret_bool (shapeB_no hlt (shapeAt_off hon)).symm, (by repeat first | apply wxr | with_reducible assumption | apply wxe | apply wxa | apply wxd)⟩
      · by_cases hk0 : k = 0
        · have H0 := Lib.hid hk0
          have hd : decide (0 < k) = false := decide_eq_false (by omega)
          clear hcell hk0
          go_wp2_with fail
          refine wp_region_ext_lit (by kernel_rfl) (by kernel_rfl) ?_
          repeat (go_big_quiet_step ((first | (go_at_call 177; first | exact Calls_ext_of2 (onBoard_b _ _ _ hon _) | exact Calls_ext_of (onBoard_b _ _ _ hon _)))))
          refine wpQuiet_nil ?_
          intro _ hwq
          obtain ⟨xq, hwq⟩ := hwq
          subst hwq
          go_wp2_with fail
          go_roundw
          case rel => exact ⟨k + 1, hlt, int_succ k, allTo_succ HA.out (shapeAt_zero hon H0.out), (by repeat first | apply wxr | with_reducible assumption | apply wxe | apply wxa | apply wxd)⟩
          case measure => simp [intOf]; omega
        · obtain ⟨hb', hi', hcx', hcy'⟩ := hcell (k - 1) (by omega)
          have e : ((k - 1 : Nat) : Int) = (k : Int) - 1 := by omega
          rw [e] at hi'
          have hd : decide (0 < k) = true := decide_eq_true (by omega)
          have hk1 : 1 ≤ k := by omega
          have H0 := Lib.hid hk0
          clear hcell e hk0
          cases hbf : bef (cx cs (k - 1)) (cy cs (k - 1)) (cx cs k) (cy cs k)
          all_goals
            go_wp2_with fail
            refine wp_region_ext_lit (by kernel_rfl) (by kernel_rfl) ?_
            repeat (go_big_quiet_step ((first | (go_at_call 177; first | exact Calls_ext_of2 (onBoard_b _ _ _ hon _) | exact Calls_ext_of (onBoard_b _ _ _ hon _)) | (go_at_call 178; first | exact Calls_ext_of2 (before_b _ _ _ _ _ hbf _) | exact Calls_ext_of (before_b _ _ _ _ _ hbf _)))))
            refine wpQuiet_nil ?_
            intro _ hwq
            obtain ⟨xq, hwq⟩ := hwq
            subst hwq
            go_wp2_with fail
          · go_ret
            exact ⟨ret_bool (shapeB_no hlt (shapeAt_pos hon H0.out hbf)).symm, (by repeat first | apply wxr | with_reducible assumption | apply wxe | apply wxa | apply wxd)⟩
          · go_roundw
            case rel => exact ⟨k + 1, hlt, int_succ k, allTo_succ HA.out (shapeAt_pos hon H0.out hbf), (by repeat first | apply wxr | with_reducible assumption | apply wxe | apply wxa | apply wxd)⟩
            case measure => simp [intOf]; omega
    · have hks := Lib.hid (show k = cs.length by omega)
      go_wp2_with (first | (go_at_call 104; refine (between_any _ _ _ _).mono ?_; rintro e w' ⟨rfl, xe, rfl⟩))
      go_ret
      exact ⟨ret_bool (by rw [shapeB, ← hks.out, HA.out]; rfl), (by repeat first | apply wxr | with_reducible assumption | apply wxe | apply wxa | apply wxd)⟩
theorem l2Before_b (x y x' y' : Int) (b : Bool) (h : bef x y x' y' = b) (w : World) : Calls Tryz.prog 168 #[.agg #[.int .i64 x, .int .i64 y], .agg #[.int .i64 x', .int .i64 y']] w fun e w' => e = .returned (.bool b) ∧ ∃ x, w' = ext w x := h ▸ l2Before_any x y x' y' w
theorem specIsShape_any (cs : List (Int × Int)) (v : Value) (w : World) (h : CellsAt w v cs) :
    Calls Tryz.prog 129 #[v] w fun e w' => e = .returned (.bool (shapeB cs)) ∧ ∃ x, w' = ext w x := by
  obtain ⟨a, b, o, cap, rfl, hc1, hc2, hc3, hcell⟩ := h.opn
  go_enter Tryz.func129, Tryz.ntmps129
  go_wp2_with fail
  go_loopw [3] (fun i wr => ∃ k : Nat, k ≤ cs.length ∧ i = .int .i64 k ∧ allTo (shapeAt cs) k = true ∧ ∃ x, wr = ext w x) (fun i _ => cs.length - (intOf i).toNat)
  case atStart => exact ⟨0, Nat.zero_le _, rfl, rfl, (by repeat first | apply wxr | with_reducible assumption | apply wxe | apply wxa | apply wxd)⟩
  case round =>
    obtain ⟨k, hk, rfl, hall, x, rfl⟩ := hrel
    have HA := Lib.hid hall
    clear hall
    by_cases hlt : k < cs.length
    · obtain ⟨hb, hi, hcx, hcy⟩ := hcell k hlt
      cases hx : btw (cx cs k) 0 7
      · have hon := Lib.hid (show onB (cx cs k) (cy cs k) = false by simp [onB, hx])
        clear hcell
        go_wp2_with fail
        refine wp_region_ext_lit (by kernel_rfl) (by kernel_rfl) ?_
        repeat (go_big_quiet_step ((first | (go_at_call 85; first | exact Calls_ext_of2 (l1In_b _ _ _ _ hx _) | exact Calls_ext_of (l1In_b _ _ _ _ hx _)))))
        refine wpQuiet_nil ?_
        intro _ hwq
        obtain ⟨xq, hwq⟩ := hwq
        subst hwq
        go_wp2_with fail
        go_ret
        exact ⟨ret_bool (shapeB_no hlt (shapeAt_off hon.out)).symm, (by repeat first | apply wxr | with_reducible assumption | apply wxe | apply wxa | apply wxd)⟩
      cases hy : btw (cy cs k) 0 7
      · have hon := Lib.hid (show onB (cx cs k) (cy cs k) = false by simp [onB, hy])
        clear hcell
        go_wp2_with fail
        refine wp_region_ext_lit (by kernel_rfl) (by kernel_rfl) ?_
        repeat (go_big_quiet_step ((first | (go_at_call 85; first | exact Calls_ext_of2 (l1In_b _ _ _ _ (by assumption) _) | exact Calls_ext_of (l1In_b _ _ _ _ (by assumption) _)))))
        refine wpQuiet_nil ?_
        intro _ hwq
        obtain ⟨xq, hwq⟩ := hwq
        subst hwq
        go_wp2_with fail
        go_ret
        exact ⟨ret_bool (shapeB_no hlt (shapeAt_off hon.out)).symm, (by repeat first | apply wxr | with_reducible assumption | apply wxe | apply wxa | apply wxd)⟩
      · have hon := Lib.hid (show onB (cx cs k) (cy cs k) = true by simp [onB, hx, hy])
        by_cases hk0 : k = 0
        · have H0 := Lib.hid hk0
          have hd : decide (0 < k) = false := decide_eq_false (by omega)
          clear hcell hk0
          go_wp2_with fail
          refine wp_region_ext_lit (by kernel_rfl) (by kernel_rfl) ?_
          repeat (go_big_quiet_step ((first | (go_at_call 85; first | exact Calls_ext_of2 (l1In_b _ _ _ _ (by assumption) _) | exact Calls_ext_of (l1In_b _ _ _ _ (by assumption) _)))))
          refine wpQuiet_nil ?_
          intro _ hwq
          obtain ⟨xq, hwq⟩ := hwq
          subst hwq
          go_wp2_with fail
          go_roundw
          case rel => exact ⟨k + 1, hlt, int_succ k, allTo_succ HA.out (shapeAt_zero hon.out H0.out), (by repeat first | apply wxr | with_reducible assumption | apply wxe | apply wxa | apply wxd)⟩
          case measure => simp [intOf]; omega
        · obtain ⟨hb', hi', hcx', hcy'⟩ := hcell (k - 1) (by omega)
          have e : ((k - 1 : Nat) : Int) = (k : Int) - 1 := by omega
          rw [e] at hi'
          have hd : decide (0 < k) = true := decide_eq_true (by omega)
          have hk1 : 1 ≤ k := by omega
          have H0 := Lib.hid hk0
          clear hcell e hk0
          cases hbf : bef (cx cs (k - 1)) (cy cs (k - 1)) (cx cs k) (cy cs k)
          all_goals
            go_wp2_with fail
            refine wp_region_ext_lit (by kernel_rfl) (by kernel_rfl) ?_
            repeat (go_big_quiet_step ((first | (go_at_call 85; first | exact Calls_ext_of2 (l1In_b _ _ _ _ (by assumption) _) | exact Calls_ext_of (l1In_b _ _ _ _ (by assumption) _)) | (go_at_call 168; first | exact Calls_ext_of2 (l2Before_b _ _ _ _ _ hbf _) | exact Calls_ext_of (l2Before_b _ _ _ _ _ hbf _)))))
            refine wpQuiet_nil ?_
            intro _ hwq
            obtain ⟨xq, hwq⟩ := hwq
            subst hwq
            go_wp2_with fail
          · go_ret
            exact ⟨ret_bool (shapeB_no hlt (shapeAt_pos hon.out H0.out hbf)).symm, (by repeat first | apply wxr | with_reducible assumption | apply wxe | apply wxa | apply wxd)⟩
          · go_roundw
            case rel => exact ⟨k + 1, hlt, int_succ k, allTo_succ HA.out (shapeAt_pos hon.out H0.out hbf), (by repeat first | apply wxr | with_reducible assumption | apply wxe | apply wxa | apply wxd)⟩
            case measure => simp [intOf]; omega
    · have hks := Lib.hid (show k = cs.length by omega)
      go_wp2_with (first | (go_at_call 85; refine (l1In_any _ _ _ _).mono ?_; rintro e w' ⟨rfl, xe, rfl⟩))
      go_ret
      exact ⟨ret_bool (by rw [shapeB, ← hks.out, HA.out]; rfl), (by repeat first | apply wxr | with_reducible assumption | apply wxe | apply wxa | apply wxd)⟩
theorem shapeB_bd {cs : List (Int × Int)} (h : shapeB cs = true) : 1 ≤ cs.length ∧ cs.length ≤ 8 ∧ ∀ k, k < cs.length → 0 ≤ cx cs k ∧ cx cs k ≤ 7 ∧ 0 ≤ cy cs k ∧ cy cs k ≤ 7 := by
  simp only [shapeB, Bool.and_eq_true, btw_iff] at h
  refine ⟨by omega, by omega, fun k hk => ?_⟩
  have := allTo_true.1 h.1 k hk
  simp only [shapeAt, onB, Bool.and_eq_true, btw_iff] at this
  omega
end
section
open Go.ChangeShapes Go.WideShapes Go.ChangeAt Go.RowKit
def ltI (a b : Int) : Bool := decide (a < b)
def ltC (a b : Int × Int) : Bool := bef a.1 a.2 b.1 b.2
theorem ltC_iff {a b : Int × Int} : ltC a b = true ↔ a.2 < b.2 ∨ a.2 = b.2 ∧ a.1 < b.1 := by simp [ltC, bef]
theorem ltC_not {a b : Int × Int} : ltC a b = false ↔ ¬ (a.2 < b.2 ∨ a.2 = b.2 ∧ a.1 < b.1) := by rw [← ltC_iff]; simp
theorem strictC : Strict ltC := ⟨fun a => by rw [ltC_not]; omega, fun a b c => by rw [ltC_iff, ltC_iff, ltC_iff]; omega, fun a b h1 h2 => by
  rw [ltC_not] at h1 h2
  exact Prod.ext (by omega) (by omega)⟩
def lexL : List (Int × Int) → List (Int × Int) → Bool
  | a :: l, b :: m => ltC a b || (!ltC b a && lexL l m)
  | _, _ => false
def ltS (a b : List (Int × Int)) : Bool := decide (a.length < b.length) || (decide (a.length = b.length) && lexL a b)
/-- -1, 0 or 1 -/
def cmpS (a b : List (Int × Int)) : Int := if ltS a b then -1 else if ltS b a then 1 else 0
/-- the first k cells agree -/
def agree (a b : List (Int × Int)) (k : Nat) : Prop := lexL a b = lexL (a.drop k) (b.drop k) ∧ lexL b a = lexL (b.drop k) (a.drop k)
/-! ### moves and corners -/
def movedL (cs : List (Int × Int)) (x y : Int) : List (Int × Int) := cs.map fun c => (c.1 + x, c.2 + y)
theorem movedL_len (cs : List (Int × Int)) (x y : Int) : (movedL cs x y).length = cs.length := by simp [movedL]
def mnX (cs : List (Int × Int)) : Nat → Int := iter (fun i m => min m (cx cs i)) (cx cs 0)
def mnY (cs : List (Int × Int)) : Nat → Int := iter (fun i m => min m (cy cs i)) (cy cs 0)
theorem mnX_succ (cs : List (Int × Int)) (k : Nat) : mnX cs (k + 1) = min (mnX cs k) (cx cs k) := rfl
theorem mnY_succ (cs : List (Int × Int)) (k : Nat) : mnY cs (k + 1) = min (mnY cs k) (cy cs k) := rfl
theorem mnX_le (cs : List (Int × Int)) (k : Nat) : ∀ i, i < k → mnX cs k ≤ cx cs i := by
  induction k with
  | zero => intro i hi; omega
  | succ k ih =>
    intro i hi
    rw [mnX_succ]
    by_cases e : i = k
    · subst e; omega
    · have := ih i (by omega); omega
theorem mnY_le (cs : List (Int × Int)) (k : Nat) : ∀ i, i < k → mnY cs k ≤ cy cs i := by
  induction k with
  | zero => intro i hi; omega
  | succ k ih =>
    intro i hi
    rw [mnY_succ]
    by_cases e : i = k
    · subst e; omega
    · have := ih i (by omega); omega
theorem mnX_at (cs : List (Int × Int)) (k : Nat) : ∃ i, (i < k ∨ i = 0) ∧ mnX cs k = cx cs i := by
  induction k with
  | zero => exact ⟨0, .inr rfl, rfl⟩
  | succ k ih =>
    obtain ⟨i, h1, h2⟩ := ih
    rw [mnX_succ]
    by_cases h : mnX cs k ≤ cx cs k
    · exact ⟨i, by omega, by omega⟩
    · exact ⟨k, by omega, by omega⟩
theorem mnY_at (cs : List (Int × Int)) (k : Nat) : ∃ i, (i < k ∨ i = 0) ∧ mnY cs k = cy cs i := by
  induction k with
  | zero => exact ⟨0, .inr rfl, rfl⟩
  | succ k ih =>
    obtain ⟨i, h1, h2⟩ := ih
    rw [mnY_succ]
    by_cases h : mnY cs k ≤ cy cs k
    · exact ⟨i, by omega, by omega⟩
    · exact ⟨k, by omega, by omega⟩
def left (cs : List (Int × Int)) : Int := mnX cs cs.length
def low (cs : List (Int × Int)) : Int := mnY cs cs.length
theorem cx_get {cs : List (Int × Int)} {i : Nat} (h : i < cs.length) : cx cs i = cs[i].1 := by simp [cx, List.getD, h]
theorem cy_get {cs : List (Int × Int)} {i : Nat} (h : i < cs.length) : cy cs i = cs[i].2 := by simp [cy, List.getD, h]
theorem left_le {cs : List (Int × Int)} {c : Int × Int} (h : c ∈ cs) : left cs ≤ c.1 := by
  obtain ⟨i, hi, rfl⟩ := List.getElem_of_mem h
  rw [← cx_get hi]; exact mnX_le cs cs.length i hi
theorem low_le {cs : List (Int × Int)} {c : Int × Int} (h : c ∈ cs) : low cs ≤ c.2 := by
  obtain ⟨i, hi, rfl⟩ := List.getElem_of_mem h
  rw [← cy_get hi]; exact mnY_le cs cs.length i hi
theorem left_at {cs : List (Int × Int)} (h : cs ≠ []) : ∃ c ∈ cs, left cs = c.1 := by
  have hp : 0 < cs.length := List.length_pos_iff.2 h
  obtain ⟨i, h1, h2⟩ := mnX_at cs cs.length
  have hi : i < cs.length := by omega
  exact ⟨cs[i], List.getElem_mem hi, by rw [← cx_get hi]; exact h2⟩
theorem low_at {cs : List (Int × Int)} (h : cs ≠ []) : ∃ c ∈ cs, low cs = c.2 := by
  have hp : 0 < cs.length := List.length_pos_iff.2 h
  obtain ⟨i, h1, h2⟩ := mnY_at cs cs.length
  have hi : i < cs.length := by omega
  exact ⟨cs[i], List.getElem_mem hi, by rw [← cy_get hi]; exact h2⟩
theorem asc_moved {cs : List (Int × Int)} (h : Asc ltC cs) (x y : Int) : Asc ltC (movedL cs x y) := by
  refine List.pairwise_map.2 (h.imp fun {a b} hab => ?_)
  rw [ltC_iff] at hab ⊢
  simp only
  omega
theorem mem_moved {cs : List (Int × Int)} {x y : Int} {c : Int × Int} : c ∈ movedL cs x y ↔ (c.1 - x, c.2 - y) ∈ cs := by
  simp only [movedL, List.mem_map]
  constructor
  · rintro ⟨d, hd, rfl⟩
    simp only [Int.add_sub_cancel]; exact hd
  · intro h
    exact ⟨_, h, Prod.ext (by simp) (by simp)⟩
/-- moved to the corner, in order -/
def cornerL (cs : List (Int × Int)) : List (Int × Int) := sortL ltC (movedL cs (-left cs) (-low cs))
def l2C (cs : List (Int × Int)) : List (Int × Int) := movedL cs (-left cs) (-low cs)
theorem corner_asc {cs : List (Int × Int)} (h : Asc ltC cs) : cornerL cs = l2C cs := sortL_asc strictC (asc_moved h _ _)
theorem shape_asc {cs : List (Int × Int)} (h : shapeB cs = true) : Asc ltC cs := by
  simp only [shapeB, Bool.and_eq_true] at h
  have h1 := allTo_true.1 h.1
  have key : ∀ d i, i + d + 1 < cs.length → ltC (cs.getD i (0, 0)) (cs.getD (i + d + 1) (0, 0)) = true := by
    intro d
    induction d with
    | zero =>
      intro i hi
      have := h1 (i + 1) (by omega)
      simp only [shapeAt, Bool.and_eq_true] at this
      simpa [ltC, cx, cy] using this.2
    | succ d ih =>
      intro i hi
      have h2 := ih i (by omega)
      have h3 := h1 (i + d + 2) (by omega)
      simp only [shapeAt, Bool.and_eq_true] at h3
      have h4 : ltC (cs.getD (i + d + 1) (0, 0)) (cs.getD (i + (d + 1) + 1) (0, 0)) = true := by simpa [ltC, cx, cy, Nat.add_assoc] using h3.2
      exact strictC.trans _ _ _ h2 h4
  refine List.pairwise_iff_getElem.2 fun i j hi hj hij => ?_
  have := key (j - i - 1) i (by omega)
  rw [show i + (j - i - 1) + 1 = j by omega] at this
  simpa [List.getD, hi, hj] using this
/-! ### motions -/
def rot (c : Int × Int) : Int × Int := (-c.2, c.1)
def flip4 (m : Nat) (c : Int × Int) : Int × Int := if 4 ≤ m then (-c.1, c.2) else c
def carTo (m : Nat) (c : Int × Int) : Nat → Int × Int := iter (fun _ c => rot c) (flip4 m c)
def car (m : Nat) (c : Int × Int) : Int × Int := carTo m c (m % 4)
def turnL (m : Nat) (cs : List (Int × Int)) : List (Int × Int) := cs.map (car m)
def tshape (m : Nat) (cs : List (Int × Int)) : List (Int × Int) := cornerL (turnL m cs)
def oTo (cs : List (Int × Int)) : Nat → List (List (Int × Int)) := iter (fun m l => putL ltS (tshape m cs) l) []
def orL (cs : List (Int × Int)) : List (List (Int × Int)) := oTo cs 8
def oV (cs : List (Int × Int)) : List (List (Int × Int)) := if shapeB cs then orL cs else []
theorem cornerL_len (cs : List (Int × Int)) : (cornerL cs).length ≤ cs.length := by
  have := sortL_len ltC (movedL cs (-left cs) (-low cs))
  rwa [movedL_len] at this
theorem corner_bd {cs : List (Int × Int)} {A B : Int} (h : ∀ c ∈ cs, A ≤ c.1 ∧ c.1 ≤ B ∧ A ≤ c.2 ∧ c.2 ≤ B) : ∀ c ∈ cornerL cs, 0 ≤ c.1 ∧ c.1 ≤ B - A ∧ 0 ≤ c.2 ∧ c.2 ≤ B - A := by
  intro c hc
  have h1 : (c.1 - -left cs, c.2 - -low cs) ∈ cs := mem_moved.1 ((mem_sortL strictC).1 hc)
  have h2 := left_le h1
  have h3 := low_le h1
  have h4 := h _ h1
  have hne : cs ≠ [] := by intro e; subst e; simp at h1
  obtain ⟨d, hd1, hd2⟩ := left_at hne
  obtain ⟨e, he1, he2⟩ := low_at hne
  have h5 := h _ hd1
  have h6 := h _ he1
  simp only at h2 h3 h4
  omega
end
section
open Go.ChangeShapes Go.WideShapes Go.ChangeAt Go.RowKit
open Go.Shelf
def laid_laysGg6_ren : Go.Shelf.Ren := ⟨fun | 6 => 195 | 10 => 209 | 11 => 210 | 12 => 211 | 13 => 212 | 14 => 213 | 24 => 234 | 25 => 235 | 26 => 236 | 27 => 237 | 28 => 238 | 29 => 239 | 30 => 240 | 31 => 241 | 32 => 242 | 33 => 243 | 34 => 254 | 35 => 255 | 36 => 256 | 37 => 257 | 38 => 258 | 39 => 265 | n => n, fun | 20 => 20 | 26 => 83 | 35 => 189 | 0 => 0 | 37 => 191 | 3 => 3 | 41 => 101 | 44 => 195 | 49 => 154 | 51 => 156 | 4 => 4 | 54 => 211 | 53 => 210 | 58 => 170 | 5 => 5 | 9 => 9 | 60 => 223 | 64 => 227 | 66 => 232 | 67 => 46 | 17 => 17 | 32 => 173 | 33 => 187 | 82 => 247 | 12 => 12 | 75 => 241 | 76 => 242 | 77 => 243 | 78 => 163 | 79 => 244 | 80 => 245 | n => n, fun | n => n⟩
theorem laid_laysGg6 : Go.Proofs.LaysGg.n6 Tryz.prog laid_laysGg6_ren := {
  mixed := by kernel_rfl
  f6 := Tryz.func195.trans (congrArg some (by kernel_rfl))
  f10 := Tryz.func209.trans (congrArg some (by kernel_rfl))
  f11 := Tryz.func210.trans (congrArg some (by kernel_rfl))
  f12 := Tryz.func211.trans (congrArg some (by kernel_rfl))
  f13 := Tryz.func212.trans (congrArg some (by kernel_rfl))
  f14 := Tryz.func213.trans (congrArg some (by kernel_rfl))
  f24 := Tryz.func234.trans (congrArg some (by kernel_rfl))
  f25 := Tryz.func235.trans (congrArg some (by kernel_rfl))
  f26 := Tryz.func236.trans (congrArg some (by kernel_rfl))
  f27 := Tryz.func237.trans (congrArg some (by kernel_rfl))
  f28 := Tryz.func238.trans (congrArg some (by kernel_rfl))
  f29 := Tryz.func239.trans (congrArg some (by kernel_rfl))
  f30 := Tryz.func240.trans (congrArg some (by kernel_rfl))
  f31 := Tryz.func241.trans (congrArg some (by kernel_rfl))
  f32 := Tryz.func242.trans (congrArg some (by kernel_rfl))
  f33 := Tryz.func243.trans (congrArg some (by kernel_rfl))
  f34 := Tryz.func254.trans (congrArg some (by kernel_rfl))
  f35 := Tryz.func255.trans (congrArg some (by kernel_rfl))
  f36 := Tryz.func256.trans (congrArg some (by kernel_rfl))
  f37 := Tryz.func257.trans (congrArg some (by kernel_rfl))
  f38 := Tryz.func258.trans (congrArg some (by kernel_rfl))
  f39 := Tryz.func265.trans (congrArg some (by kernel_rfl))
  t0 := Tryz.underlying0
  a0 := Tryz.isAgg0
  z0 := Tryz.sizeOf0
  v0 := Tryz.zeroValue0
  i0 := by kernel_rfl
  t3 := Tryz.underlying3
  a3 := Tryz.isAgg3
  z3 := Tryz.sizeOf3
  v3 := Tryz.zeroValue3
  i3 := by kernel_rfl
  t4 := Tryz.underlying4
  a4 := Tryz.isAgg4
  z4 := Tryz.sizeOf4
  v4 := Tryz.zeroValue4
  i4 := by kernel_rfl
  t5 := Tryz.underlying5
  a5 := Tryz.isAgg5
  z5 := Tryz.sizeOf5
  v5 := Tryz.zeroValue5
  i5 := by kernel_rfl
  t9 := Tryz.underlying9
  a9 := Tryz.isAgg9
  z9 := Tryz.sizeOf9
  v9 := Tryz.zeroValue9
  i9 := by kernel_rfl
  t12 := Tryz.underlying12
  a12 := Tryz.isAgg12
  z12 := Tryz.sizeOf12
  v12 := Tryz.zeroValue12
  i12 := by kernel_rfl
  t17 := Tryz.underlying17
  a17 := Tryz.isAgg17
  z17 := Tryz.sizeOf17
  v17 := Tryz.zeroValue17
  i17 := by kernel_rfl
  t20 := Tryz.underlying20
  a20 := Tryz.isAgg20
  z20 := Tryz.sizeOf20
  v20 := Tryz.zeroValue20
  i20 := by kernel_rfl
  t26 := Tryz.underlying83
  a26 := Tryz.isAgg83
  z26 := Tryz.sizeOf83
  v26 := Tryz.zeroValue83
  i26 := by kernel_rfl
  t32 := Tryz.underlying173
  a32 := Tryz.isAgg173
  z32 := Tryz.sizeOf173
  v32 := Tryz.zeroValue173
  i32 := by kernel_rfl
  t33 := Tryz.underlying187
  a33 := Tryz.isAgg187
  z33 := Tryz.sizeOf187
  v33 := Tryz.zeroValue187
  i33 := by kernel_rfl
  t35 := Tryz.underlying189
  a35 := Tryz.isAgg189
  z35 := Tryz.sizeOf189
  v35 := Tryz.zeroValue189
  i35 := by kernel_rfl
  t37 := Tryz.underlying191
  a37 := Tryz.isAgg191
  z37 := Tryz.sizeOf191
  v37 := Tryz.zeroValue191
  i37 := by kernel_rfl
  t41 := Tryz.underlying101
  a41 := Tryz.isAgg101
  z41 := Tryz.sizeOf101
  v41 := Tryz.zeroValue101
  i41 := by kernel_rfl
  t44 := Tryz.underlying195
  a44 := Tryz.isAgg195
  z44 := Tryz.sizeOf195
  v44 := Tryz.zeroValue195
  i44 := by kernel_rfl
  t49 := Tryz.underlying154
  a49 := Tryz.isAgg154
  z49 := Tryz.sizeOf154
  v49 := Tryz.zeroValue154
  i49 := by kernel_rfl
  t51 := Tryz.underlying156
  a51 := Tryz.isAgg156
  z51 := Tryz.sizeOf156
  v51 := Tryz.zeroValue156
  i51 := by kernel_rfl
  t53 := Tryz.underlying210
  a53 := Tryz.isAgg210
  z53 := Tryz.sizeOf210
  v53 := Tryz.zeroValue210
  i53 := by kernel_rfl
  t54 := Tryz.underlying211
  a54 := Tryz.isAgg211
  z54 := Tryz.sizeOf211
  v54 := Tryz.zeroValue211
  i54 := by kernel_rfl
  t58 := Tryz.underlying170
  a58 := Tryz.isAgg170
  z58 := Tryz.sizeOf170
  v58 := Tryz.zeroValue170
  i58 := by kernel_rfl
  t60 := Tryz.underlying223
  a60 := Tryz.isAgg223
  z60 := Tryz.sizeOf223
  v60 := Tryz.zeroValue223
  i60 := by kernel_rfl
  t64 := Tryz.underlying227
  a64 := Tryz.isAgg227
  z64 := Tryz.sizeOf227
  v64 := Tryz.zeroValue227
  i64 := by kernel_rfl
  t66 := Tryz.underlying232
  a66 := Tryz.isAgg232
  z66 := Tryz.sizeOf232
  v66 := Tryz.zeroValue232
  i66 := by kernel_rfl
  t67 := Tryz.underlying46
  a67 := Tryz.isAgg46
  z67 := Tryz.sizeOf46
  v67 := Tryz.zeroValue46
  i67 := by kernel_rfl
  t75 := Tryz.underlying241
  a75 := Tryz.isAgg241
  z75 := Tryz.sizeOf241
  v75 := Tryz.zeroValue241
  i75 := by kernel_rfl
  t76 := Tryz.underlying242
  a76 := Tryz.isAgg242
  z76 := Tryz.sizeOf242
  v76 := Tryz.zeroValue242
  i76 := by kernel_rfl
  t77 := Tryz.underlying243
  a77 := Tryz.isAgg243
  z77 := Tryz.sizeOf243
  v77 := Tryz.zeroValue243
  i77 := by kernel_rfl
  t78 := Tryz.underlying163
  a78 := Tryz.isAgg163
  z78 := Tryz.sizeOf163
  v78 := Tryz.zeroValue163
  i78 := by kernel_rfl
  t79 := Tryz.underlying244
  a79 := Tryz.isAgg244
  z79 := Tryz.sizeOf244
  v79 := Tryz.zeroValue244
  i79 := by kernel_rfl
  t80 := Tryz.underlying245
  a80 := Tryz.isAgg245
  z80 := Tryz.sizeOf245
  v80 := Tryz.zeroValue245
  i80 := by kernel_rfl
  t82 := Tryz.underlying247
  a82 := Tryz.isAgg247
  z82 := Tryz.sizeOf247
  v82 := Tryz.zeroValue247
  i82 := by kernel_rfl }
end
section
open Go.ChangeShapes Go.WideShapes Go.ChangeAt Go.RowKit
open Go.Shelf Go.Sort
theorem lessC_any (cs : List (Int × Int)) (v : Value) (b : Nat) (w : World) [hb : Old w b] (hB : w.cell? ⟨b, 0, none⟩ = some v) (h : CellsAt w v cs) (i j : Nat) (hi : i < cs.length) (hj : j < cs.length) :
    Calls Tryz.prog 196 #[.int .i64 i, .int .i64 j, .pointer (some ⟨b, 0, none⟩)] w fun e w' => e = .returned (.bool (bef (cx cs i) (cy cs i) (cx cs j) (cy cs j))) ∧ ∃ x, w' = ext w x := by
  obtain ⟨a, bl, o, cap, rfl, hc1, hc2, hc3, hcell⟩ := h.opn
  obtain ⟨b1, i1, x1, y1⟩ := hcell i hi
  obtain ⟨b2, i2, x2, y2⟩ := hcell j hj
  clear hcell h
  go_enter Tryz.func196, Tryz.ntmps196
  go_wp2_with fail
  refine wp_region_ext_lit (by kernel_rfl) (by kernel_rfl) ?_
  repeat (go_big_quiet_step ((first | (go_at_call 178; first | exact Calls_ext_of2 (before_any _ _ _ _ _) | exact Calls_ext_of (before_any _ _ _ _ _)))))
  refine wpQuiet_nil ?_
  intro _ hwq
  obtain ⟨xq, hwq⟩ := hwq
  subst hwq
  go_wp2_with fail
  go_ret
  exact ⟨rfl, (by repeat first | apply wxr | with_reducible assumption | apply wxe | apply wxa | apply wxd)⟩
theorem getC (d : Array (Int × Int)) (i : Nat) (h : i < d.size) : bef (cx d.toList i) (cy d.toList i) = fun x y => bef d[i]!.1 d[i]!.2 x y := by
  funext x y
  simp [cx, cy, List.getD, h]
theorem lessA_any (d : Array (Int × Int)) (v : Value) (b : Nat) (w : World) [hb : Old w b] (hB : w.cell? ⟨b, 0, none⟩ = some v) (h : CellsAt w v d.toList) (i j : Nat) (hi : i < d.size) (hj : j < d.size) (c : Bool) (hc : ltC d[i]! d[j]! = c) :
    Calls Tryz.prog 196 #[.int .i64 i, .int .i64 j, .pointer (some ⟨b, 0, none⟩)] w fun e w' => e = .returned (.bool c) ∧ ∃ x, w' = ext w x := by
  have := lessC_any d.toList v b w hB h i j (by simpa using hi) (by simpa using hj)
  rw [getC d i hi] at this
  dsimp only at this
  have e : bef d[i]!.1 d[i]!.2 (cx d.toList j) (cy d.toList j) = ltC d[i]! d[j]! := by simp [cx, cy, List.getD, hj, ltC]
  rw [e, hc] at this
  exact this
theorem swp_list (d : Array (Int × Int)) (i j : Nat) : (swp d i j).toList = (d.toList.set i (d[j]!.1, d[j]!.2)).set j (d[i]!.1, d[i]!.2) := by simp [swp]
theorem swap_any {W0 w : World} {L : List Row} {g n cap : Nat} {d : Array (Int × Int)} (hd : d.size = n) (H : Held W0 w (rowC (.slice (some ⟨g, 0, none⟩) n cap) d.toList :: L)) (i j : Nat) (hi : i < n) (hj : j < n) :
    (callFunc 233 #[.int .i64 i, .int .i64 j, .slice (some ⟨g, 0, none⟩) n cap, typeHandle Tryz.prog 95]).run Tryz.prog w = .ok (.value (.tuple #[])) ((((w.setCell ⟨g, i * 2, none⟩ (.int .i64 d[j]!.1)).setCell ⟨g, i * 2 + 1, none⟩ (.int .i64 d[j]!.2)).setCell ⟨g, j * 2, none⟩ (.int .i64 d[i]!.1)).setCell ⟨g, j * 2 + 1, none⟩ (.int .i64 d[i]!.2)) ∧
      Held W0 ((((w.setCell ⟨g, i * 2, none⟩ (.int .i64 d[j]!.1)).setCell ⟨g, i * 2 + 1, none⟩ (.int .i64 d[j]!.2)).setCell ⟨g, j * 2, none⟩ (.int .i64 d[i]!.1)).setCell ⟨g, j * 2 + 1, none⟩ (.int .i64 d[i]!.2)) (rowC (.slice (some ⟨g, 0, none⟩) n cap) (swp d i j).toList :: L) := by
  obtain ⟨ie, hie, hs⟩ := Option.map_eq_some_iff.1 infoCell
  obtain ⟨x1, y1, f1⟩ := H.cellC (i := i) (by simp; omega)
  obtain ⟨x2, y2, f2⟩ := H.cellC (i := j) (by simp; omega)
  have e1 : (cx d.toList i, cy d.toList i) = d[i]! := by simp [cx, cy, List.getD, show i < d.size by omega]
  have e2 : (cx d.toList j, cy d.toList j) = d[j]! := by simp [cx, cy, List.getD, show j < d.size by omega]
  have k1 : cx d.toList i = d[i]!.1 ∧ cy d.toList i = d[i]!.2 := ⟨congrArg Prod.fst e1, congrArg Prod.snd e1⟩
  have k2 : cx d.toList j = d[j]!.1 ∧ cy d.toList j = d[j]!.2 := ⟨congrArg Prod.fst e2, congrArg Prod.snd e2⟩
  rw [k1.1] at x1; rw [k1.2] at y1; rw [k2.1] at x2; rw [k2.2] at y2
  have cellAt : ∀ (q : Nat) (c : Int × Int), w.cell? ⟨g, q * 2, none⟩ = some (.int .i64 c.1) → w.cell? ⟨g, q * 2 + 1, none⟩ = some (.int .i64 c.2) → ∀ k v, (cv c)[k]? = some v → w.cell? ⟨g, 0 + q * ie.size + k, none⟩ = some v := fun q c h0 h1 k v hk => by
    rw [hs, Nat.zero_add]
    match k, hk with
    | 0, hk => simp [cv, iv] at hk; subst hk; exact h0
    | 1, hk => simp [cv, iv] at hk; subst hk; exact h1
    | k + 2, hk => simp [cv] at hk
  have hr := Lib.run_swap_cells (P := Tryz.prog) false 95 ie hie (fun _ => by kernel_rfl) g 0 n cap i j hi hj (cv d[i]!) (cv d[j]!) (by rw [hs]; rfl) (by rw [hs]; rfl)
    (by intro v hv; simp [cv, iv] at hv; rcases hv with rfl | rfl <;> rfl) (by intro v hv; simp [cv, iv] at hv; rcases hv with rfl | rfl <;> rfl) w (cellAt i _ x1 y1) (cellAt j _ x2 y2) (fun k _ => f1 _) (fun k _ => f2 _)
  refine ⟨?_, ?_⟩
  rotate_left
  · rw [swp_list]
    exact (H.putC i d[j]!.1 d[j]!.2).putC j d[i]!.1 d[i]!.2
  · rw [run_callFunc_extern Tryz.func233 (by kernel_rfl) (by kernel_rfl) (by kernel_rfl) (e := Extern.ReflectliteSwapper.swap false) (by kernel_rfl), hr, hs, Nat.zero_add, Nat.zero_add]
    rfl
def lessV (b : Nat) : Value := .func (.func 196) #[] #[.pointer (some ⟨b, 0, none⟩)]
def swapV (th : Value) (g n cap : Nat) : Value := .func (.func 233) #[] #[.slice (some ⟨g, 0, none⟩) n cap, th]
abbrev rowA (g n cap : Nat) (d : Array (Int × Int)) : Row := rowC (.slice (some ⟨g, 0, none⟩) n cap) d.toList
abbrev boxA (b g n cap : Nat) : Row := boxR b 41 (.slice (some ⟨g, 0, none⟩) n cap)
/-- the boxed pair of functions in a world, and the rows -/
structure InsSt (W0 w : World) (L : List Row) (B g n cap b : Nat) (d : Array (Int × Int)) : Prop where
  row : Held W0 w (rowA g n cap d :: boxA b g n cap :: L)
  old : Old w B
  c0 : w.cell? ⟨B, 0, none⟩ = some (lessV b)
  c1 : w.cell? ⟨B, 1, none⟩ = some (swapV (typeHandle Tryz.prog 95) g n cap)
  ne : B ≠ g
theorem InsSt.ext {W0 w : World} {L : List Row} {B g n cap b : Nat} {d : Array (Int × Int)} (I : InsSt W0 w L B g n cap b d) (x : Ext) : InsSt W0 (ext w x) L B g n cap b d :=
  haveI := I.old
  ⟨I.row.ext x, inferInstance, by rw [cell?_ext]; exact I.c0, by rw [cell?_ext]; exact I.c1, I.ne⟩
theorem InsSt.to {W0 w w' : World} {L : List Row} {B g n cap b : Nat} {d : Array (Int × Int)} (I : InsSt W0 w L B g n cap b d) (h : ∃ x, w' = Proofs.YtchcepihmphdmaaGreatDoor.ext w x) : InsSt W0 w' L B g n cap b d := by
  obtain ⟨x, rfl⟩ := h; exact I.ext x
theorem InsSt.less {W0 w : World} {L : List Row} {B g n cap b : Nat} {d : Array (Int × Int)} (I : InsSt W0 w L B g n cap b d) (hd : d.size = n) (i j : Nat) (hi : i < n) (hj : j < n) (c : Bool) (hc : ltC d[i]! d[j]! = c) :
    Calls Tryz.prog 196 #[.int .i64 i, .int .i64 j, .pointer (some ⟨b, 0, none⟩)] w fun e w' => e = .returned (.bool c) ∧ ∃ x, w' = Proofs.YtchcepihmphdmaaGreatDoor.ext w x :=
  haveI := I.row.boxO (b := b) (List.mem_cons_of_mem _ List.mem_cons_self)
  lessA_any d _ b w (I.row.box (b := b) (List.mem_cons_of_mem _ List.mem_cons_self)).1 I.row.cells0 i j (by omega) (by omega) c hc
theorem setCell_far {w : World} {B k q i : Nat} {v : Value} (h : B ≠ q) : (w.setCell ⟨q, i, none⟩ v).cell? ⟨B, k, none⟩ = w.cell? ⟨B, k, none⟩ := World.cell?_setCell_other _ _ _ _ (fun e => h (by simp only [Addr.mk.injEq] at e; exact e.1.symm))
theorem InsSt.swap {W0 w : World} {L : List Row} {B g n cap b : Nat} {d : Array (Int × Int)} (I : InsSt W0 w L B g n cap b d) (hd : d.size = n) (i j : Nat) (hi : i < n) (hj : j < n) :
    ∃ w', (callFunc 233 #[.int .i64 i, .int .i64 j, .slice (some ⟨g, 0, none⟩) n cap, typeHandle Tryz.prog 95]).run Tryz.prog w = .ok (.value (.tuple #[])) w' ∧ InsSt W0 w' L B g n cap b (swp d i j) := by
  obtain ⟨h1, h2⟩ := swap_any hd I.row i j hi hj
  refine ⟨_, h1, h2, ?_, ?_, ?_, I.ne⟩
  · haveI := I.old
    infer_instance
  · rw [setCell_far I.ne, setCell_far I.ne, setCell_far I.ne, setCell_far I.ne]; exact I.c0
  · rw [setCell_far I.ne, setCell_far I.ne, setCell_far I.ne, setCell_far I.ne]; exact I.c1
set_option maxRecDepth 100000 in
set_option maxHeartbeats 2000000 in
theorem insSort_any {W0 : World} {L : List Row} (g n cap b : Nat) (d : Array (Int × Int)) (hd : d.size = n) (hn : n ≤ 12) (w : World) (H : Held W0 w (rowA g n cap d :: boxA b g n cap :: L)) :
    Calls Tryz.prog 236 #[.agg #[lessV b, swapV (typeHandle Tryz.prog 95) g n cap], .int .i64 0, .int .i64 n] w fun e w' => e = .returned (.tuple #[]) ∧ Held W0 w' (rowA g n cap (Sort.insertionSort ltC d 0 n) :: boxA b g n cap :: L) := by
  have I0 : InsSt W0 (w.alloc (.cells #[lessV b, swapV (typeHandle Tryz.prog 95) g n cap] 195)) L w.heap.size g n cap b d :=
    ⟨H.to (by repeat first | apply wxr | with_reducible assumption | apply wxe | apply wxa | apply wxd), inferInstance, World.cell?_alloc_at _ _ _ _ rfl, World.cell?_alloc_at _ _ _ _ rfl, fun e => by
      have := ((H.own _ List.mem_cons_self).lt g rfl).2
      omega⟩
  have HD := Lib.hid hd
  clear hd
  go_enter Tryz.func236, Tryz.ntmps236
  go_wp2_with fail
  go_loopw [6] (fun vi wr => ∃ (i : Nat) (dk : Array (Int × Int)), vi = .int .i64 i ∧ 0 < i ∧ i ≤ n + 1 ∧ dk.size = n ∧ insOuter ltC 0 n i dk = insOuter ltC 0 n 1 d ∧ InsSt W0 wr L w.heap.size g n cap b dk) (fun vi _ => n + 1 - (intOf vi).toNat)
  case atStart => exact ⟨1, d, rfl, by omega, by omega, HD.out, rfl, I0⟩
  case round =>
    clear I0 H
    obtain ⟨i, dk, rfl, hi0, hin, hdk, hO, I⟩ := hrel
    have HO := Lib.hid hO
    have HK := Lib.hid hdk
    clear hO hdk
    by_cases hlt : i < n
    · go_wp2_with fail
      go_loopw [7] (fun vj wr2 => ∃ (j : Nat) (dj : Array (Int × Int)), vj = .int .i64 j ∧ j ≤ i ∧ dj.size = n ∧ insInner ltC 0 j dj = insInner ltC 0 i dk ∧ InsSt W0 wr2 L w.heap.size g n cap b dj) (fun vj _ => (intOf vj).toNat)
      case atStart => exact ⟨i, dk, rfl, Nat.le_refl _, HK.out, rfl, I⟩
      case round =>
        clear I
        obtain ⟨j, dj, rfl, hji, hdj, hI, I⟩ := hrel
        have HI := Lib.hid hI
        have HJ := Lib.hid hdj
        have hc0 := I.c0
        have hc1 := I.c1
        have hbo := I.old
        unfold lessV at hc0
        unfold swapV at hc1
        clear hI hdj
        by_cases hj0 : 0 < j
        · have e : ((j - 1 : Nat) : Int) = (j : Int) - 1 := by omega
          cases hlv : ltC dj[j]! dj[j - 1]!
          · have hl := I.less HJ.out j (j - 1) (by omega) (by omega) false hlv
            rw [e] at hl
            have HL := Lib.hid hl
            have HV := Lib.hid hlv
            clear hl hlv e
            go_wp2_with (first | (go_at_call 196; refine HL.out.mono ?_; rintro e w' ⟨rfl, xe, rfl⟩))
            go_roundw
            case rel => exact ⟨i + 1, dj, int_succ i, by omega, by omega, HJ.out, by rw [← HO.out, insOuter_go _ _ _ _ _ hlt, ← HI.out, insInner_stop _ _ _ _ (Or.inr HV.out)], I.to (by repeat first | apply wxr | with_reducible assumption | apply wxe | apply wxa | apply wxd)⟩
            case measure => simp [intOf]; omega
          · have hl := I.less HJ.out j (j - 1) (by omega) (by omega) true hlv
            rw [e] at hl
            have HL := Lib.hid hl
            have HV := Lib.hid hlv
            have IS := fun (x : Ext) => (I.ext x).swap HJ.out j (j - 1) (by omega) (by omega)
            rw [e] at IS
            have HS := Lib.hid IS
            clear hl hlv e IS
            go_wp2_with (first | (go_at_call 196; refine HL.out.mono ?_; rintro e w' ⟨rfl, xe, rfl⟩))
            obtain ⟨w2, hs1, hs2⟩ := HS.out xe
            rw [hs1, Oper.upon_value]
            go_wp2_with fail
            go_roundw
            case rel => exact ⟨j - 1, swp dj j (j - 1), by congr 1; omega, by omega, by rw [size_swp]; exact HJ.out, by rw [← HI.out, insInner_go _ _ _ _ hj0 HV.out], hs2⟩
            case measure => simp [intOf]; omega
        · go_wp2_with fail
          go_roundw
          case rel => exact ⟨i + 1, dj, int_succ i, by omega, by omega, HJ.out, by rw [← HO.out, insOuter_go _ _ _ _ _ hlt, ← HI.out, insInner_stop _ _ _ _ (Or.inl (by omega))], I⟩
          case measure => simp [intOf]; omega
    · go_wp2_with fail
      go_end0
      exact ⟨rfl, by rw [Sort.insertionSort, ← HO.out, insOuter_stop _ _ _ _ _ hlt]; exact I.row⟩
end
section
open Go.ChangeShapes Go.WideShapes Go.ChangeAt Go.RowKit
open Go.Shelf Go.Sort
set_option maxRecDepth 100000 in
set_option maxHeartbeats 2000000 in
theorem pdq_any {W0 : World} {L : List Row} (g n cap b : Nat) (lim : Int) (d : Array (Int × Int)) (hd : d.size = n) (hn : n ≤ 12) (w : World) (H : Held W0 w (rowA g n cap d :: boxA b g n cap :: L)) :
    Calls Tryz.prog 213 #[.agg #[lessV b, swapV (typeHandle Tryz.prog 95) g n cap], .int .i64 0, .int .i64 n, .int .i64 lim] w fun e w' => e = .returned (.tuple #[]) ∧ Held W0 w' (rowA g n cap (Sort.insertionSort ltC d 0 n) :: boxA b g n cap :: L) := by
  have HI := Lib.hid fun (w' : World) (hx : ∃ x, w' = ext w x) => insSort_any g n cap b d hd hn w' (H.to hx)
  clear H hd
  go_enter Tryz.func213, Tryz.ntmps213
  go_wp2_with fail
  refine wp_loop_rounds 1 ?_
  rw [rounds_succ]
  go_wp2_with (first | (go_at_call 236; refine (HI.out _ (by repeat first | apply wxr | with_reducible assumption | apply wxe | apply wxa | apply wxd)).mono ?_; rintro e w' ⟨rfl, H2⟩))
  (try simp only [Exit.inBlock, Exit.then]); refine bodyPost_ret (results_none rfl _ _ _) rfl ?_
  exact ⟨rfl, H2⟩
theorem svK (n : Nat) (h2 : 2 ≤ n) : Lib.swapperK n ((Tryz.prog.info? 95).get (by kernel_rfl)) 25 = 9 := by
  have a : ((Tryz.prog.info? 95).get (by kernel_rfl)).hasPointers = false := by kernel_rfl
  have b : ((Tryz.prog.info? 95).get (by kernel_rfl)).bytes = 16 := by kernel_rfl
  have c : (n == 0) = false := by simp; omega
  have d : (n == 1) = false := by simp; omega
  simp [Lib.swapperK, a, b, c, d]
theorem ext_grow (w : World) (os : Array Obj) : ∃ x, Sort.grow w os = ext w x := ⟨⟨os, w.drawn⟩, rfl⟩
theorem swoC : SWO ltC := ⟨strictC.irr, strictC.trans, fun x y z h1 h2 => by rw [ltC_not] at h1 h2 ⊢; omega⟩
set_option maxRecDepth 100000 in
theorem sliceSort_any {W0 : World} {L : List Row} (g cap b : Nat) (cs : List (Int × Int)) (h0 : 1 ≤ cs.length) (hn : cs.length ≤ 12) (w : World)
    (H : Held W0 w (rowC (.slice (some ⟨g, 0, none⟩) cs.length cap) cs :: boxA b g cs.length cap :: L)) :
    Calls Tryz.prog 195 #[.iface 41 (.slice (some ⟨g, 0, none⟩) cs.length cap), lessV b] w fun e w' => e = .returned (.tuple #[]) ∧ ∃ ds : List (Int × Int), ds.Pairwise (fun x y => ltC y x = false) ∧ ds.Perm cs ∧ Held W0 w' (rowC (.slice (some ⟨g, 0, none⟩) cs.length cap) ds :: boxA b g cs.length cap :: L) := by
  by_cases h1 : cs.length = 1
  · have := Any.sort_Slice_tiny laid_laysGg6 41 95 ((Tryz.prog.info? 41).get (by kernel_rfl)) ((Tryz.prog.info? 95).get (by kernel_rfl)) (by kernel_rfl) (by kernel_rfl) (by kernel_rfl) (by kernel_rfl) 25 (fun _ => by kernel_rfl)
      (some ⟨g, 0, none⟩) cs.length cap (by omega) 226 (by rw [h1]; kernel_rfl) (.func 196) #[] #[.pointer (some ⟨b, 0, none⟩)] w
    change Calls Tryz.prog 195 _ _ _ at this
    refine this.mono ?_
    rintro e w' ⟨he, os, rfl⟩
    refine ⟨he, cs, ?_, List.Perm.refl _, H.to (ext_grow w os)⟩
    obtain ⟨c, rfl⟩ := List.length_eq_one_iff.1 h1
    simp
  · have hsz : cs.toArray.size = cs.length := by simp
    have := Any.sort_Slice_of_pdq laid_laysGg6 41 95 ((Tryz.prog.info? 41).get (by kernel_rfl)) ((Tryz.prog.info? 95).get (by kernel_rfl)) (by kernel_rfl) (by kernel_rfl) (by kernel_rfl) (by kernel_rfl) 25 (fun _ => by kernel_rfl)
      (some ⟨g, 0, none⟩) cs.length cap (by omega) 233 (by rw [svK _ (by omega)]; kernel_rfl) (.func 196) #[] #[.pointer (some ⟨b, 0, none⟩)] w
      (fun w' => Held W0 w' (rowA g cs.length cap (Sort.insertionSort ltC cs.toArray 0 cs.length) :: boxA b g cs.length cap :: L)) (by
        unfold sliceBound
        rw [if_neg (by rw [svK _ (by omega)]; omega)]
        exact pdq_any g cs.length cap b _ cs.toArray hsz hn _ (H.to (by unfold sliceWorld; exact ext_alloc' (ext_alloc w _) _)))
    change Calls Tryz.prog 195 _ _ _ at this
    refine this.mono ?_
    rintro e w' ⟨he, H2⟩
    obtain ⟨hp, hs⟩ := insertionSort_holds swoC cs.toArray 0 cs.length (Nat.zero_le _) (by simp)
    generalize Sort.insertionSort ltC cs.toArray 0 cs.length = d' at hp hs H2
    obtain ⟨p1, p2, p3⟩ := hp
    have hl : d'.size = cs.length := by rw [p1]; simp
    refine ⟨he, d'.toList, ?_, ?_, H2⟩
    · refine List.pairwise_iff_getElem.2 fun i j hi hj hij => ?_
      have hi' : i < d'.size := by simpa using hi
      have hj' : j < d'.size := by simpa using hj
      have := hs i j (Nat.zero_le _) hij (by omega)
      rw [getElem!_pos d' i hi', getElem!_pos d' j hj'] at this
      exact this
    · rw [← hl] at p3
      rw [show d'.extract 0 d'.size = d' by simp] at p3
      rw [hl] at p3
      have e2 : (cs.toArray.extract 0 cs.length).toList = cs := by simp
      rw [e2] at p3
      exact p3
end
section
open Go.ChangeShapes Go.WideShapes Go.ChangeAt Go.RowKit
theorem Held.allC {W0 w : World} {L : List Row} {v : Value} {cs : List (Int × Int)} (H : Held W0 w (⟨v, 95, 2, 0 + cs.length, [] ++ cs.flatMap cv⟩ :: L)) : Held W0 w (rowC v cs :: L) := by
  rw [Nat.zero_add, List.nil_append] at H; exact H
theorem Held.posC {W0 w : World} {L : List Row} {v : Value} {cs : List (Int × Int)} (H : Held W0 w (rowC v cs :: L)) (h : 0 < cs.length) : ∃ g cap, v = .slice (some ⟨g, 0, none⟩) cs.length cap := by
  rcases (H.own _ List.mem_cons_self).2 with ⟨_, h0⟩ | ⟨g, cap, cur, hv, _⟩
  · simp only at h0; omega
  · exact ⟨g, cap, hv⟩
theorem oneC (cs : List (Int × Int)) : ∀ u ∈ cs.flatMap cv, u.oneCell' = true := by
  intro u hu
  obtain ⟨c, _, hu⟩ := List.mem_flatMap.1 hu
  simp [cv, iv] at hu
  rcases hu with rfl | rfl <;> rfl
theorem getD_cell (ds : List (Int × Int)) (k : Nat) : ds.getD k (0, 0) = (cx ds k, cy ds k) := rfl
set_option maxHeartbeats 2000000 in
theorem sortCells_any (cs : List (Int × Int)) (v : Value) (w : World) (h : CellsAt w v cs) (h1 : 1 ≤ cs.length) (h12 : cs.length ≤ 12) :
    Calls Tryz.prog 179 #[v] w (CellsPost w (sortL ltC cs)) := by
  have H0 : Held w w [⟨.slice none 0 0, 95, 2, 0, []⟩] := (Held.start w).nilC
  go_enter Tryz.func179, Tryz.ntmps179
  go_wp2_with (first | (at_builtin; refine wpList_append_held rfl _ _ _ rfl elemCell H0 rfl rfl (by exact h) (oneC cs) (by unfold maxLen; omega) (by omega) ?_; intro v' wq H; replace H := H.allC; obtain ⟨g, gc, rfl⟩ := H.posC (by omega)) | (go_at_call 195; refine (sliceSort_any g gc _ cs h1 h12 _ (H.newBox _ _).swap).mono ?_; rintro e w' ⟨rfl, ds, hs, hp, H2⟩; generalize hb : wq.heap.size = b at H2 ⊢; have HS := Lib.hid (And.intro hs hp); have hbx := (H2.box (b := b) (List.mem_cons_of_mem _ List.mem_cons_self)).1; have hbo : Old _ b := H2.boxO (List.mem_cons_of_mem _ List.mem_cons_self); have H3 := Lib.hid (H2.nilC); clear H hb hs hp H2))
  have hl : ds.length = cs.length := HS.out.2.length_eq
  clear hbx hbo
  go_loopw [4, 15] (fun u i wr => ∃ (r : Value) (k : Nat), r = u ∧ k ≤ cs.length ∧ i = .int .i64 k ∧ Held w wr [rowC r (ddTo (0, 0) ds k), rowC (.slice (some ⟨g, 0, none⟩) cs.length gc) ds, boxA b g cs.length gc]) (fun _ i _ => cs.length - (intOf i).toNat)
  case atStart => exact ⟨_, 0, rfl, Nat.zero_le _, rfl, H3.out⟩
  case round =>
    clear H3
    obtain ⟨r, k, rfl, hk, rfl, H⟩ := hrel
    have hbx := (H.box (b := b) (t := 41) (u := .slice (some ⟨g, 0, none⟩) cs.length gc) (by simp)).1
    have hbo : Old wr b := H.boxO (t := 41) (u := .slice (some ⟨g, 0, none⟩) cs.length gc) (by simp)
    obtain ⟨a2, b2, o2, cap2, e2, d1, d2, d3, hc⟩ := H.swap.cells0.opn
    simp only [Value.slice.injEq, hl] at e2
    obtain ⟨rfl, _, rfl⟩ := e2
    rw [hl] at hc
    have HC := Lib.hid hc
    have HH := Lib.hid H
    clear hc H d1 d2 d3
    by_cases hlt : k < cs.length
    · obtain ⟨q1, q2, q3, q4⟩ := HC.out k hlt
      have hdl := ddTo_len (0, 0) ds k
      by_cases hk0 : k = 0
      · have hke : ((k : Int) == 0) = true := by simp; omega
        have HF := Lib.hid (ddTo_t (d := ((0, 0) : Int × Int)) (l := ds) (k := k) (.inl hk0))
        clear hk0
        go_wp2_with fail
        refine wp_region_ext_lit (by kernel_rfl) (by kernel_rfl) ?_
        repeat (go_big_quiet_step (fail))
        refine wpQuiet_nil ?_
        intro _ hwq
        obtain ⟨xq, hwq⟩ := hwq
        subst hwq
        go_wp2_with (first | (at_builtin; refine wpList_append_held (m := 1) rfl _ _ _ rfl elemCell (HH.out.to (by repeat first | apply wxr | with_reducible assumption | apply wxe | apply wxa | apply wxd)) rfl rfl (Sl_cell _ _ _ _) (one_cell _ _) (by unfold maxLen; omega) (by omega) ?_; intro v' w' H; replace H := H.snocC))
        go_roundw
        case rel => exact ⟨v', k + 1, rfl, hlt, int_succ k, by rw [HF.out, getD_cell]; exact H⟩
        case measure => simp [intOf]; omega
      · obtain ⟨r1, r2, r3, r4⟩ := HC.out (k - 1) (by omega)
        have e : ((k - 1 : Nat) : Int) = (k : Int) - 1 := by omega
        rw [e] at r2
        have hke : ((k : Int) == 0) = false := by simp; omega
        have HK0 := Lib.hid hk0
        clear hk0 e
        by_cases hx : cx ds (k - 1) = cx ds k
        · by_cases hy : cy ds (k - 1) = cy ds k
          · have HF := Lib.hid (ddTo_f (d := ((0, 0) : Int × Int)) (l := ds) HK0.out (by rw [getD_cell, getD_cell, hx, hy]))
            go_wp2_with fail
            refine wp_region_ext_lit (by kernel_rfl) (by kernel_rfl) ?_
            repeat (go_big_quiet_step (fail))
            refine wpQuiet_nil ?_
            intro _ hwq
            obtain ⟨xq, hwq⟩ := hwq
            subst hwq
            go_wp2_with fail
            go_roundw
            case rel => exact ⟨r, k + 1, rfl, hlt, int_succ k, by rw [HF.out]; exact HH.out.to (by repeat first | apply wxr | with_reducible assumption | apply wxe | apply wxa | apply wxd)⟩
            case measure => simp [intOf]; omega
          · have HF := Lib.hid (ddTo_t (d := ((0, 0) : Int × Int)) (l := ds) (k := k) (.inr (by rw [getD_cell, getD_cell]; exact fun h => hy (congrArg Prod.snd h))))
            go_wp2_with fail
            refine wp_region_ext_lit (by kernel_rfl) (by kernel_rfl) ?_
            repeat (go_big_quiet_step (fail))
            refine wpQuiet_nil ?_
            intro _ hwq
            obtain ⟨xq, hwq⟩ := hwq
            subst hwq
            go_wp2_with (first | (at_builtin; refine wpList_append_held (m := 1) rfl _ _ _ rfl elemCell (HH.out.to (by repeat first | apply wxr | with_reducible assumption | apply wxe | apply wxa | apply wxd)) rfl rfl (Sl_cell _ _ _ _) (one_cell _ _) (by unfold maxLen; omega) (by omega) ?_; intro v' w' H; replace H := H.snocC))
            go_roundw
            case rel => exact ⟨v', k + 1, rfl, hlt, int_succ k, by rw [HF.out, getD_cell]; exact H⟩
            case measure => simp [intOf]; omega
        · have HF := Lib.hid (ddTo_t (d := ((0, 0) : Int × Int)) (l := ds) (k := k) (.inr (by rw [getD_cell, getD_cell]; exact fun h => hx (congrArg Prod.fst h))))
          go_wp2_with fail
          refine wp_region_ext_lit (by kernel_rfl) (by kernel_rfl) ?_
          repeat (go_big_quiet_step (fail))
          refine wpQuiet_nil ?_
          intro _ hwq
          obtain ⟨xq, hwq⟩ := hwq
          subst hwq
          go_wp2_with (first | (at_builtin; refine wpList_append_held (m := 1) rfl _ _ _ rfl elemCell (HH.out.to (by repeat first | apply wxr | with_reducible assumption | apply wxe | apply wxa | apply wxd)) rfl rfl (Sl_cell _ _ _ _) (one_cell _ _) (by unfold maxLen; omega) (by omega) ?_; intro v' w' H; replace H := H.snocC))
          go_roundw
          case rel => exact ⟨v', k + 1, rfl, hlt, int_succ k, by rw [HF.out, getD_cell]; exact H⟩
          case measure => simp [intOf]; omega
    · have HK := Lib.hid (show k = cs.length by omega)
      go_wp2_with fail
      go_ret
      refine .got ?_ HH.out
      rw [HK.out, ← hl]
      exact (dd_sort strictC (0, 0) HS.out.1 fun z => HS.out.2.mem_iff).symm
end
section
open Go.ChangeShapes Go.WideShapes Go.ChangeAt Go.RowKit
theorem Sl_cellAt (w : World) (b : Nat) (x y : Int) (t : TypeId) (h : b = w.heap.size) : Sl (w.alloc (.cells #[.int .i64 x, .int .i64 y] t)) 2 (.slice (some ⟨b, 0, none⟩) 1 1) 1 [.int .i64 x, .int .i64 y] := by
  subst h; exact Sl_cell w x y t
theorem moved_succ (cs : List (Int × Int)) (x y : Int) {k : Nat} (h : k < cs.length) : (movedL cs x y).take (k + 1) = (movedL cs x y).take k ++ [(cx cs k + x, cy cs k + y)] := by
  rw [List.take_succ_eq_append_getElem (by rw [movedL_len]; exact h)]
  simp [movedL, cx, cy, List.getD, h]
def Near (B : Int) (cs : List (Int × Int)) : Prop := ∀ k, k < cs.length → -B ≤ cx cs k ∧ cx cs k ≤ B ∧ -B ≤ cy cs k ∧ cy cs k ≤ B
theorem near_mem {B : Int} {cs : List (Int × Int)} : Near B cs ↔ ∀ c ∈ cs, -B ≤ c.1 ∧ c.1 ≤ B ∧ -B ≤ c.2 ∧ c.2 ≤ B := by
  constructor
  · intro h c hc
    obtain ⟨i, hi, rfl⟩ := List.getElem_of_mem hc
    have := h i hi
    rwa [cx_get hi, cy_get hi] at this
  · intro h k hk
    rw [cx_get hk, cy_get hk]
    exact h _ (List.getElem_mem hk)
theorem near_left {B : Int} {cs : List (Int × Int)} (h : Near B cs) (h1 : 0 < cs.length) : (-B ≤ left cs ∧ left cs ≤ B) ∧ -B ≤ low cs ∧ low cs ≤ B := by
  obtain ⟨i, hi1, hi2⟩ := mnX_at cs cs.length
  obtain ⟨j, hj1, hj2⟩ := mnY_at cs cs.length
  have a := h i (by omega)
  have b := h j (by omega)
  unfold left low
  omega
set_option maxHeartbeats 1000000 in
theorem moved_any (cs : List (Int × Int)) (v : Value) (x y : Int) (w : World) (h : CellsAt w v cs) (hl : cs.length ≤ 1099511627776) (hb : Near 1099511627776 cs) (hx : -1099511627776 ≤ x ∧ x ≤ 1099511627776) (hy : -1099511627776 ≤ y ∧ y ≤ 1099511627776) :
    Calls Tryz.prog 180 #[v, .int .i64 x, .int .i64 y] w (CellsPost w (movedL cs x y)) := by
  obtain ⟨a, bl, o, cap, rfl, hc1, hc2, hc3, hcell⟩ := h.opn
  have HC := Lib.hid hcell
  have HB := Lib.hid hb
  have H0 := Lib.hid (Held.start w).nilC
  clear hcell hb h
  go_enter Tryz.func180, Tryz.ntmps180
  go_wp2_with fail
  go_loopw [7, 12] (fun u i wr => ∃ (r : Value) (k : Nat), r = u ∧ k ≤ cs.length ∧ i = .int .i64 k ∧ Held w wr [rowC r ((movedL cs x y).take k)]) (fun _ i _ => cs.length - (intOf i).toNat)
  case atStart => exact ⟨_, 0, rfl, Nat.zero_le _, rfl, H0.out⟩
  case round =>
    clear H0
    obtain ⟨r, k, rfl, hk, rfl, H⟩ := hrel
    by_cases hlt : k < cs.length
    · obtain ⟨q1, q2, q3, q4⟩ := HC.out k hlt
      have hbd := HB.out k hlt
      have c3 : wr.cell? ⟨bl, o + k * 2, none⟩ = some (.int .i64 (cx cs k)) := by rw [H.bel.cell (p := ⟨bl, o + k * 2, none⟩) q1.lt]; exact q3
      have c4 : wr.cell? ⟨bl, o + k * 2 + 1, none⟩ = some (.int .i64 (cy cs k)) := by rw [H.bel.cell (p := ⟨bl, o + k * 2 + 1, none⟩) q1.lt]; exact q4
      have hbo : Old wr bl := ⟨Nat.lt_of_lt_of_le q1.lt H.bel.size⟩
      have hlen : ((movedL cs x y).take k).length ≤ 1099511627776 := by rw [List.length_take, movedL_len]; omega
      have HF := Lib.hid (moved_succ cs x y hlt)
      have HH := Lib.hid H
      clear q3 q4 H q1
      go_wp2_with (first | (at_builtin; refine wpList_append_held (m := 1) rfl _ _ _ rfl elemCell (HH.out.to (by repeat first | apply wxr | with_reducible assumption | apply wxe | apply wxa | apply wxd)) rfl rfl (Sl_cellAt _ _ _ _ _ (by simp)) (one_cell _ _) (by unfold maxLen; omega) (by omega) ?_; intro v' w' H; replace H := H.snocC))
      go_roundw
      case rel => exact ⟨v', k + 1, rfl, hlt, int_succ k, by rw [HF.out]; exact H⟩
      case measure => simp [intOf]; omega
    · have HK := Lib.hid (show k = cs.length by omega)
      have HH := Lib.hid H
      clear H
      go_wp2_with fail
      go_ret
      have H := HH.out
      rw [HK.out, List.take_of_length_le (by rw [movedL_len]; exact Nat.le_refl _)] at H
      exact .got rfl H
set_option maxHeartbeats 2000000 in
theorem corner_any (cs : List (Int × Int)) (v : Value) (w : World) (h : CellsAt w v cs) (h1 : 1 ≤ cs.length) (h12 : cs.length ≤ 12) (hb : Near 1000 cs) :
    Calls Tryz.prog 155 #[v] w (CellsPost w (cornerL cs)) := by
  have h0 := h
  have hnl := near_left hb (by omega)
  obtain ⟨a, bl, o, cap, rfl, hc1, hc2, hc3, hcell⟩ := h.opn
  obtain ⟨p1, p2, p3, p4⟩ := hcell 0 (by omega)
  rw [Nat.zero_mul, Nat.add_zero] at p3 p4
  have p5 : ∀ w', (Instr.indexAt 41 (.slice a cs.length cap) (.int .i64 0)).run Tryz.prog w' = .ok (.pointer (some ⟨bl, o, none⟩)) w' := fun w' => by have := p2 w'; rwa [Nat.zero_mul, Nat.add_zero] at this
  have HC := Lib.hid hcell
  have HB := Lib.hid hb
  have HN := Lib.hid hnl
  clear hcell hb h p2 hnl
  go_enter Tryz.func155, Tryz.ntmps155
  go_wp2_with fail
  refine wp_region_ext_lit (by kernel_rfl) (by kernel_rfl) ?_
  repeat (go_big_quiet_step (fail))
  refine wpQuiet_nil ?_
  intro _ hwq
  obtain ⟨xq, hwq⟩ := hwq
  subst hwq
  go_wp2_with fail
  clear p5 p3 p4 p1
  go_loopw [3, 4, 17] (fun ux uy i wr => ∃ k : Nat, k ≤ cs.length ∧ i = .int .i64 k ∧ ux = .int .i64 (mnX cs k) ∧ uy = .int .i64 (mnY cs k) ∧ ∃ x, wr = ext w x) (fun _ _ i _ => cs.length - (intOf i).toNat)
  case atStart => exact ⟨0, Nat.zero_le _, rfl, rfl, rfl, (by repeat first | apply wxr | with_reducible assumption | apply wxe | apply wxa | apply wxd)⟩
  case round =>
    obtain ⟨k, hk, rfl, rfl, rfl, x, rfl⟩ := hrel
    by_cases hlt : k < cs.length
    · obtain ⟨q1, q2, q3, q4⟩ := HC.out k hlt
      have HX := Lib.hid (mnX_succ cs k)
      have HY := Lib.hid (mnY_succ cs k)
      go_wp2_with fail
      refine wp_region_ext_lit (by kernel_rfl) (by kernel_rfl) ?_
      repeat (go_big_quiet_step (fail))
      refine wpQuiet_nil ?_
      intro _ hwq
      obtain ⟨xq, hwq⟩ := hwq
      subst hwq
      go_wp2_with fail
      go_roundw
      case rel => exact ⟨k + 1, hlt, int_succ k, by rw [HX.out], by rw [HY.out], (by repeat first | apply wxr | with_reducible assumption | apply wxe | apply wxa | apply wxd)⟩
      case measure => simp [intOf]; omega
    · have HK := Lib.hid (show k = cs.length by omega)
      have hL : mnX cs k = left cs := by rw [HK.out]; rfl
      have hM : mnY cs k = low cs := by rw [HK.out]; rfl
      rw [hL, hM]
      have hn := HN.out
      clear hL hM
      go_wp2_with (first | (go_at_call 180; refine (moved_any cs _ _ _ _ (by with_reducible first|assumption|((first|refine wmI ‹_› ?_|refine wmC ‹_› ?_);repeat first|apply wxr|assumption|apply wxe|apply wxa|apply wxd)) (by omega) (fun k hk => by have := HB.out k hk; omega) (by omega) (by omega)).mono ?_; rintro e w' ⟨u, rfl, K⟩; have KC := K.cells0; obtain ⟨ua, uc, rfl⟩ := K.rowCV; obtain ⟨xe, rfl⟩ := ext_of K.bel) | (go_at_call 179; refine (sortCells_any _ _ _ KC (by rw [movedL_len]; omega) (by rw [movedL_len]; omega)).mono ?_; rintro e w' ⟨u2, rfl, K2⟩))
      go_ret
      exact .got rfl (K2.base (bel_of_ext (by repeat first | apply wxr | with_reducible assumption | apply wxe | apply wxa | apply wxd)))
end
end Go.Proofs.YtchcepihmphdmaaGreatDoor
