/- Part 1 of a proof: base, sl, held, ints, copyints, marks, hold2, bsof, texts, between, numbers, dots, extend, itoalaid, itoa, laid, fmtrec, opens. -/
import Derived.Test.YtmehmpammjcnkaaDoorRows
import Derived.WalkKit
import Derived.ProofKit
import Derived.OpenShut
import Derived.BigQuiet
import Derived.Lib.Hide
import Derived.Deep.QuietTactic
import Derived.Outline
import Derived.OrdersHeld
import Derived.Laws.AppendOwnNone
import Derived.Deep.AppendLies
import Derived.Lib.Join
import Derived.Shelf.Strings.Builder1
import Derived.Shelf.Strings.Builder2
import Derived.Shelf.Strings.OnBuilder
import Derived.Shelf.Strings.BuilderF
import Derived.Shelf.Utf8.RuneCount
import Derived.Shelf.Strings.Builder2Cap
import Derived.Shelf.Strconv.Itoa0
import Derived.Shelf.Strconv.Itoa1
import Derived.Shelf.LaysM
import Derived.Shelf.Strconv.Itoa2
import Derived.Shelf.Strconv.Itoa3
import Derived.Shelf.Strings.Search1
import Derived.Shelf.Strings.Search2
import Derived.Shelf.Strings.Search3
import Derived.Shelf.Strings.Count
import Derived.Shelf.Strings.Shaped
import Derived.Shelf.Strings.Split
import Derived.Shelf.Strings.SplitShaped
import Derived.Shelf.Unicode.Decode
import Derived.Shelf.Strings.RuneCount
import Derived.Shelf.Strings.Explode
import Derived.Shelf.Unicode.DecodeSlow
import Derived.Shelf.Unicode.DecodeAny
import Derived.Lib.LaidTab
import Derived.Laws.IdiomStrings
namespace Go.Proofs.YtmehmpammjcnkaaDoor
set_option linter.unusedVariables false
section
open Go.ChangeShapes Go.WideShapes Go.ChangeAt Go.RowKit
/-- New blocks behind those of a world, and another count of draws. -/
structure Ext where
  bs : Array Obj
  d : Nat
instance : Nonempty Ext := ⟨⟨#[], 0⟩⟩
def ext (w : World) (x : Ext) : World := { w with heap := w.heap ++ x.bs, drawn := x.d }
/-- block n lies in w -/
class Old (w : World) (n : Nat) : Prop where
  lt : n < w.heap.size
/-- w has n blocks -/
class SizeIs (w : World) (n : Nat) : Prop where
  eq : w.heap.size = n
section
variable (w : World) (x y : Ext)
theorem size_ext : (ext w x).heap.size = w.heap.size + x.bs.size := by simp [ext]
theorem ext_ext : ext (ext w x) y = ext w ⟨x.bs ++ y.bs, y.d⟩ := by simp [ext, Array.append_assoc]
@[go_sem] theorem drew_ext : (ext w x).drew = ext w ⟨x.bs, x.d + 1⟩ := rfl
@[go_sem] theorem drawn_ext : ({ ext w x with drawn := (ext w x).drawn + 1 } : World) = ext w ⟨x.bs, x.d + 1⟩ := rfl
@[go_sem] theorem tape_ext : (ext w x).tape = w.tape := rfl
@[go_sem] theorem os_ext : (ext w x).os = w.os := rfl
@[go_sem] theorem output_ext : (ext w x).output = w.output := rfl
theorem lt_ext {n : Nat} (h : n < w.heap.size) : n < (ext w x).heap.size := by rw [size_ext]; omega
theorem lt_alloc {n : Nat} (o : Obj) (h : n < w.heap.size) : n < (w.alloc o).heap.size := by rw [World.size_alloc]; omega
instance old_ext {n : Nat} [h : Old w n] : Old (ext w x) n := ⟨lt_ext w x h.lt⟩
instance old_alloc {n : Nat} (o : Obj) [h : Old w n] : Old (w.alloc o) n := ⟨lt_alloc w o h.lt⟩
instance old_new (o : Obj) {n : Nat} [h : SizeIs w n] : Old (w.alloc o) n := ⟨by rw [World.size_alloc, h.eq]; omega⟩
instance size_new (o : Obj) {n : Nat} [h : SizeIs w n] : SizeIs (w.alloc o) (n + 1) := ⟨by rw [World.size_alloc, h.eq]⟩
instance size_set {n : Nat} (a : Addr) (v : Value) [h : SizeIs w n] : SizeIs (w.setCell a v) n := ⟨by rw [World.size_setCell, h.eq]⟩
instance size_drew {n : Nat} [h : SizeIs w n] : SizeIs w.drew n := ⟨h.eq⟩
instance (priority := low) size_self : SizeIs w w.heap.size := ⟨rfl⟩
instance old_drew {n : Nat} [h : Old w n] : Old w.drew n := ⟨h.lt⟩
instance old_set {n : Nat} (a : Addr) (v : Value) [h : Old w n] : Old (w.setCell a v) n := ⟨by rw [World.size_setCell]; exact h.lt⟩
theorem heap_ext {n : Nat} (h : n < w.heap.size) : (ext w x).heap[n]? = w.heap[n]? := by
  simp [ext, Array.getElem?_append_left h]
@[go_sem] theorem cell?_ext {n i : Nat} [h : Old w n] : (ext w x).cell? ⟨n, i, none⟩ = w.cell? ⟨n, i, none⟩ := by
  simp only [World.cell?, heap_ext w x h.lt]
@[go_sem] theorem cell?_old {n i : Nat} (o : Obj) [h : Old w n] : (w.alloc o).cell? ⟨n, i, none⟩ = w.cell? ⟨n, i, none⟩ := World.cell?_alloc_past o n i h.lt
@[go_sem] theorem frozen?_old {n i : Nat} (o : Obj) [h : Old w n] : (w.alloc o).frozen? ⟨n, i, none⟩ = w.frozen? ⟨n, i, none⟩ := World.frozen?_alloc_past o n i h.lt
@[go_sem] theorem setCell_old {n i : Nat} (o : Obj) (v : Value) [h : Old w n] : (w.alloc o).setCell ⟨n, i, none⟩ v = (w.setCell ⟨n, i, none⟩ v).alloc o := World.setCell_alloc_past o n i v h.lt
@[go_sem] theorem frozen?_ext {n i : Nat} [h : Old w n] : (ext w x).frozen? ⟨n, i, none⟩ = w.frozen? ⟨n, i, none⟩ := by
  simp only [World.frozen?, heap_ext w x h.lt]
@[go_sem] theorem shape?_ext {n : Nat} [h : Old w n] : (ext w x).shape? n = w.shape? n := by
  simp only [World.shape?, heap_ext w x h.lt]
@[go_sem] theorem setCell_ext {n i : Nat} (v : Value) [ho : Old w n] : (ext w x).setCell ⟨n, i, none⟩ v = ext (w.setCell ⟨n, i, none⟩ v) x := by
  have h := ho.lt
  simp only [World.setCell, ext]
  congr 1
  apply Array.ext_getElem?
  intro k
  simp only [Array.getElem?_modify, Array.getElem?_append, Array.size_modify]
  by_cases hk : n = k
  · subst hk; simp [h]
  · simp [hk]
end
theorem ext_zero (w : World) : w = ext w ⟨#[], w.drawn⟩ := by simp [ext]
theorem ext_alloc (w : World) (o : Obj) : ∃ x, w.alloc o = ext w x := ⟨⟨#[o], w.drawn⟩, by simp only [ext, Array.append_singleton]; rfl⟩
theorem Below_ext (w : World) (x : Ext) : Below w.heap.size w (ext w x) := ⟨rfl, rfl, rfl, by simp [size_ext], fun k hk => heap_ext w x hk⟩
theorem ext_of {w w' : World} (h : Below w.heap.size w w') : ∃ x, w' = ext w x := by
  refine ⟨⟨w'.heap.extract w.heap.size w'.heap.size, w'.drawn⟩, ?_⟩
  obtain ⟨h1, h2, h3, h4, h5⟩ := h
  cases w'
  simp only [ext] at *
  subst h1; subst h2; subst h3
  congr 1
  apply Array.ext_getElem?
  intro k
  rw [Array.getElem?_append]
  split
  · exact h5 k (by assumption)
  · rename_i hk
    rw [Array.getElem?_extract]
    by_cases hk2 : k < Array.size (by assumption : Array Obj)
    · rw [if_pos (by omega)]
      congr 1
      omega
    · rw [if_neg (by omega)]
      simp
      omega
theorem Calls_ext_of {P : Program} {f : FuncId} {args : Array Value} {w : World} {x : Ext} {v : Value}
    (h : Calls P f args (ext w x) fun e w' => e = .returned v ∧ ∃ y, w' = ext (ext w x) y) : Calls P f args (ext w x) fun e w'' => e = .returned v ∧ ∃ y, w'' = ext w y :=
  h.mono fun _ _ ⟨he, m, hm⟩ => ⟨he, ⟨x.bs ++ m.bs, m.d⟩, by rw [hm, ext_ext]⟩
theorem wp_region_ext_lit {P : Program} {id : Nat} {Q : Exit → Act → World → Prop} {a : Act} {w : World} {l : List Oper} (hm : P.follows .mixedOrders = true) (hB : Region.lexB .any l.toArray = true)
    (h : wpQuiet P l.toArray (fun w' => ∃ x, w' = ext w x) (fun a' => ∀ w', (∃ x, w' = ext w x) → Q .normal a' w') l a) : (Code.region id l.toArray true).wp P Q a w :=
  wp_region_quiet (C := fun w' => ∃ x, w' = ext w x) hm hB ⟨⟨#[], w.drawn + 1⟩, by simp [ext]⟩ (by simpa using h)
theorem bel_of_ext {w w' : World} (h : ∃ x, w' = ext w x) : Below w.heap.size w w' := by obtain ⟨x, rfl⟩ := h; exact Below_ext w x
theorem ext_trans {w w1 w2 : World} (h : ∃ x, w1 = ext w x) (k : ∃ x, w2 = ext w1 x) : ∃ x, w2 = ext w x := by
  obtain ⟨x, rfl⟩ := h; obtain ⟨y, rfl⟩ := k; exact ⟨_, ext_ext w x y⟩
theorem ext_refl (w : World) : ∃ x, w = ext w x := ⟨_, ext_zero w⟩
theorem ext_alloc' {w w1 : World} (h : ∃ x, w1 = ext w x) (o : Obj) : ∃ x, w1.alloc o = ext w x := ext_trans h (ext_alloc w1 o)
theorem ext_ext' {w w1 : World} (h : ∃ x, w1 = ext w x) (y : Ext) : ∃ x, ext w1 y = ext w x := ext_trans h ⟨y, rfl⟩
theorem ext_drew' {w w1 : World} (h : ∃ x, w1 = ext w x) : ∃ x, w1.drew = ext w x := ext_trans h ⟨⟨#[], w1.drawn + 1⟩, by simp only [ext, Array.append_empty]; rfl⟩
theorem ret_bool {a b : Bool} (h : a = b) : Ending.returned (.bool a) = .returned (.bool b) := by rw [h]
theorem ret_int {a b : Int} (h : a = b) : Ending.returned (.int .i64 a) = .returned (.int .i64 b) := by rw [h]
theorem bool_not {b : Bool} (h : (!b) = true) : b = false := by simpa using h
theorem bool_not' {b : Bool} (h : (!b) = false) : b = true := by simpa using h
theorem int_succ (k : Nat) : Value.int .i64 ((k : Int) + 1) = .int .i64 ((k + 1 : Nat) : Int) := by simp
theorem Calls_ext_of2 {P : Program} {f : FuncId} {args : Array Value} {w : World} {b c : Array Obj} {d : Nat} {v : Value}
    (h : Calls P f args (ext w ⟨b ++ c, d⟩) fun e w' => e = .returned v ∧ ∃ y, w' = ext (ext w ⟨b ++ c, d⟩) y) : Calls P f args (ext w ⟨b ++ c, d⟩) fun e w'' => e = .returned v ∧ ∃ y : Ext, w'' = ext w ⟨b ++ y.bs, y.d⟩ :=
  h.mono fun _ _ ⟨he, m, hm⟩ => ⟨he, ⟨c ++ m.bs, m.d⟩, by rw [hm, ext_ext]; simp only [Array.append_assoc]⟩
theorem own_slice {w : World} {B e sz : Nat} {v : Value} {n : Nat} {xs : List Value} (h : w.ownsRow B e sz v n xs) : ∃ a cap, v = .slice a n cap := by
  rcases h.2 with ⟨rfl, rfl⟩ | ⟨g, cap, cur, rfl, _⟩
  · exact ⟨_, _, rfl⟩
  · exact ⟨_, _, rfl⟩
theorem own_move {W W' : World} {x : Ext} {B e sz : Nat} {v : Value} {n : Nat} {xs : List Value} (h : (ext W x).ownsRow B e sz v n xs) (hs : W'.heap.size = W.heap.size) (hB : W.heap.size ≤ B) : (ext W' x).ownsRow B e sz v n xs := by
  refine ⟨h.1, ?_⟩
  rcases h.2 with h2 | ⟨g, cap, cur, h1, h2, h3, h4⟩
  · exact .inl h2
  · refine .inr ⟨g, cap, cur, h1, h2, ?_, h4⟩
    rw [← h3]
    simp only [ext, Array.getElem?_append, hs]
    rw [if_neg (by omega), if_neg (by omega)]
theorem own_base {w : World} {B B' e sz : Nat} {v : Value} {n : Nat} {xs : List Value} (h : w.ownsRow B e sz v n xs) (hB : B' ≤ B) : w.ownsRow B' e sz v n xs := by
  refine ⟨h.1, ?_⟩
  rcases h.2 with h2 | ⟨g, cap, cur, h1, h2, h3⟩
  · exact .inl h2
  · exact .inr ⟨g, cap, cur, h1, Nat.le_trans hB h2, h3⟩
theorem wp_region_heldE {P : Program} {id : Nat} {Q : Exit → Act → World → Prop} {a : Act} {w : World} {ops : Array Oper} (hm : P.follows .mixedOrders = true)
    (h : wpAnyH P .any ops Q (fun w' => ∃ x, w' = ext w x) ops.size (Array.replicate ops.size false) a (ext w ⟨#[], w.drawn + 1⟩)) : (Code.region id ops true).wp P Q a w :=
  wp_region_held hm (by simpa [ext] using h)
theorem takeE {P : Program} {ops : Array Oper} {Q : Exit → Act → World → Prop} {W : World} {i : Nat} {oi : Oper} {v : Value} {fuel : Nat} {listed : Array Bool} {a : Act} {w : World} (hi : ops[i]? = some oi)
    (hs : Region.noSelect ops = true) (hf : Region.free .any ops listed i = true) (hr : (Region.ready .any ops listed).contains i = true)
    (hQ : ∀ c a w, Q (.panic c) (a.put oi.dst v) w → Q (.panic c) a w) (hw : Region.wanted oi (yielded ops a.tmps) = true) (hy : ∀ x, (execOp a.eval oi).run P (ext W x) = .ok (.value v) (ext W x)) (hS : ∃ x, w = ext W x)
    (h : wpAnyH P .any ops Q (fun w' => ∃ x, w' = ext W x) fuel (listed.setIfInBounds i true) (a.put oi.dst v) w) : wpAnyH P .any ops Q (fun w' => ∃ x, w' = ext W x) (fuel + 1) listed a w :=
  wpAnyH_take hi hs hf hr hQ (.inl ⟨hw, by rintro _ ⟨x, rfl⟩; exact hy x⟩) hS h
theorem nextE {P : Program} {ops : Array Oper} {Q : Exit → Act → World → Prop} {S : World → Prop} {i : Nat} {o : Oper} {fuel : Nat} {listed : Array Bool} {a : Act} {w : World} (ho : ops[i]? = some o)
    (hr : Region.ready .any ops listed = [i]) (hw : Region.wanted o (yielded ops a.tmps) = true)
    (h : ∀ K' : Act → World → Prop, Hid (∀ a w, S w → wpAnyH P .any ops Q S fuel (listed.setIfInBounds i true) a w → K' a w) → Oper.wp P o a w K' Q) : wpAnyH P .any ops Q S (fuel + 1) listed a w :=
  wpAnyH_all hr (by simp) fun j hj => by
    obtain rfl : j = i := by simpa using hj
    exact wpOp_step ho (fun K' hK => by rw [if_pos hw]; exact h K' (fun a w hS hW => hK a w ⟨hS, hW⟩))
end
section
open Go.ChangeShapes Go.WideShapes Go.ChangeAt Go.RowKit
/-- the k-th number of a list (0 behind its end); kept closed to simp -/
def nth (xs : List Int) (k : Nat) : Int := xs.getD k 0
def iter {α : Type} (f : Nat → α → α) (a : α) : Nat → α
  | 0 => a
  | n + 1 => f n (iter f a n)
def allTo (p : Nat → Bool) : Nat → Bool
  | 0 => true
  | n + 1 => allTo p n && p n
theorem allTo_false {p : Nat → Bool} {k n : Nat} (h : k < n) (hk : p k = false) : allTo p n = false := by
  induction n with
  | zero => omega
  | succ n ih =>
    simp only [allTo]
    by_cases e : k = n
    · subst e; simp [hk]
    · rw [ih (by omega)]; rfl
theorem allTo_true {p : Nat → Bool} {n : Nat} : allTo p n = true ↔ ∀ k, k < n → p k = true := by
  induction n with
  | zero => simp [allTo]
  | succ n ih =>
    simp only [allTo, Bool.and_eq_true, ih]
    constructor
    · rintro ⟨h1, h2⟩ k hk
      by_cases e : k = n
      · subst e; exact h2
      · exact h1 k (by omega)
    · intro h
      exact ⟨fun k hk => h k (by omega), h n (by omega)⟩
theorem allTo_succ {p : Nat → Bool} {k : Nat} (h : allTo p k = true) (hk : p k = true) : allTo p (k + 1) = true := by simp [allTo, h, hk]
/-- v is a slice of n elements of sz cells each, which hold cs -/
def Sl (w : World) (sz : Nat) (v : Value) (n : Nat) (cs : List Value) : Prop :=
  ∃ a b o cap, v = .slice a n cap ∧ n ≤ cap ∧ cap ≤ maxLen ∧ cs.length = n * sz ∧ (0 < n → a = some ⟨b, o, none⟩ ∧ b < w.heap.size) ∧ ∀ i, i < cs.length → w.cell? ⟨b, o + i, none⟩ = cs[i]?
theorem Sl.mono {w w' : World} {sz : Nat} {v : Value} {n : Nat} {cs : List Value} (h : Sl w sz v n cs) (hb : Below w.heap.size w w') : Sl w' sz v n cs := by
  obtain ⟨a, b, o, cap, rfl, h1, h2, h3, h4, h5⟩ := h
  refine ⟨a, b, o, cap, rfl, h1, h2, h3, fun hn => ⟨(h4 hn).1, Nat.lt_of_lt_of_le (h4 hn).2 hb.size⟩, fun i hi => ?_⟩
  have hn : 0 < n := by
    rcases Nat.eq_zero_or_pos n with e | e
    · subst e; simp at h3; simp [h3] at hi
    · exact e
  rw [← h5 i hi]
  exact hb.cell (p := ⟨b, o + i, none⟩) (h4 hn).2
theorem Sl.ext {w : World} {sz : Nat} {v : Value} {n : Nat} {cs : List Value} (h : Sl w sz v n cs) (x : Ext) : Sl (ext w x) sz v n cs := h.mono (Below_ext w x)
theorem Sl.alloc {w : World} {sz : Nat} {v : Value} {n : Nat} {cs : List Value} (h : Sl w sz v n cs) (o : Obj) : Sl (w.alloc o) sz v n cs :=
  h.mono ((Below.refl _ _).alloc (Nat.le_refl _) o)
theorem Sl_own {w : World} {base e sz : Nat} {v : Value} {n : Nat} {cs : List Value} (h : w.ownsRow base e sz v n cs) : Sl w sz v n cs := by
  obtain ⟨h1, h2⟩ := h
  rcases h2 with ⟨rfl, rfl⟩ | ⟨g, cap, cur, rfl, hb, hg, hnc, hcm, hcs, htake⟩
  · exact ⟨none, 0, 0, 0, rfl, Nat.le_refl _, by simp [maxLen], h1, fun h => absurd h (by omega), fun i hi => by simp at h1; simp [h1] at hi⟩
  · refine ⟨_, g, 0, cap, rfl, hnc, hcm, h1, fun _ => ⟨rfl, (Array.getElem?_eq_some_iff.1 hg).1⟩, fun i hi => ?_⟩
    rw [Nat.zero_add, cell_of_row w g i cur e (0, 0) hg, ← htake, List.getElem?_take, if_pos (by omega)]
    simp
theorem idx_run {t e sz : Nat} {z : Option Value} {P : Program} (ht : P.underlying t = some (.slice e)) (hi : (P.info? e).map (fun i => i.size) = some sz)
    (b o n cap k : Nat) (h : k < n) (w : World) :
    (Instr.indexAt t (.slice (some ⟨b, o, none⟩) n cap) (.int .i64 k)).run P w = .ok (.pointer (some ⟨b, o + k * sz, none⟩)) w := by
  obtain ⟨i, hi1, hi2⟩ := Option.map_eq_some_iff.1 hi
  subst hi2
  simp [Instr.indexAt, asIntOf, run_underlying ht, sizeOf, typeInfo, hi1, h, Addr.add]
theorem Sl.idx {w : World} {sz : Nat} {v : Value} {n : Nat} {cs : List Value} (h : Sl w sz v n cs) {t e : Nat} {P : Program} (ht : P.underlying t = some (.slice e)) (hi : (P.info? e).map (fun i => i.size) = some sz) :
    ∃ a b o cap, v = .slice a n cap ∧ n ≤ cap ∧ n ≤ 9223372036854775807 ∧ cap ≤ 9223372036854775807 ∧ ∀ k, k < n → Old w b ∧ (∀ w', (Instr.indexAt t (.slice a n cap) (.int .i64 k)).run P w' = .ok (.pointer (some ⟨b, o + k * sz, none⟩)) w') ∧
      ∀ j, j < sz → w.cell? ⟨b, o + k * sz + j, none⟩ = cs[k * sz + j]? := by
  obtain ⟨a, b, o, cap, rfl, h1, h2, h3, h4, h5⟩ := h
  unfold maxLen at h2
  refine ⟨a, b, o, cap, rfl, h1, by omega, by omega, fun k hk => ?_⟩
  obtain ⟨rfl, hb⟩ := h4 (by omega)
  refine ⟨⟨hb⟩, fun w' => idx_run (z := none) ht hi b o n cap k hk w', fun j hj => ?_⟩
  have : k * sz + j < n * sz := by
    have : (k + 1) * sz ≤ n * sz := Nat.mul_le_mul_right _ hk
    rw [Nat.add_mul] at this
    omega
  rw [Nat.add_assoc]
  exact h5 _ (by omega)
/-! ### numbers -/
def iv (n : Int) : Value := .int .i64 n
def IntsAt (w : World) (v : Value) (xs : List Int) : Prop := Sl w 1 v xs.length (xs.map iv)
theorem IntsAt.mono {w w' : World} {v : Value} {xs : List Int} (h : IntsAt w v xs) (hb : Below w.heap.size w w') : IntsAt w' v xs := Sl.mono h hb
theorem IntsAt.ext {w : World} {v : Value} {xs : List Int} (h : IntsAt w v xs) (x : Ext) : IntsAt (ext w x) v xs := Sl.ext h x
theorem IntsAt.alloc {w : World} {v : Value} {xs : List Int} (h : IntsAt w v xs) (o : Obj) : IntsAt (w.alloc o) v xs := Sl.alloc h o
theorem nth_get {xs : List Int} {k : Nat} (h : k < xs.length) : xs[k] = nth xs k := by simp [nth, h]
theorem getElem_of_nth {xs : List Int} {k : Nat} (h : k < xs.length) : (xs.map iv)[k]? = some (.int .i64 (nth xs k)) := by
  rw [← nth_get h]; simp [iv, h]
theorem Sl_of_cells {W : World} {sz : Nat} {ad : Addr} {len cap : Nat} {cs : List Value} (h1 : len ≤ cap) (h2 : cap ≤ maxLen) (h3 : cs.length = len * sz) (h0 : 0 < sz) (hc : ∀ i, i < cs.length → W.cell? (ad.add i) = cs[i]?) :
    Sl W sz (.slice (some ad) len cap) len cs := by
  by_cases hp : 0 < len
  · have hp' : 0 < cs.length := by rw [h3]; exact Nat.mul_pos hp h0
    obtain ⟨b, o, spot⟩ := ad
    have hs : spot = none := by
      have := hc 0 hp'
      rw [List.getElem?_eq_getElem hp'] at this
      simpa [Addr.add] using World.cell?_spot this
    subst hs
    refine ⟨_, b, o, cap, rfl, h1, h2, h3, fun _ => ⟨rfl, ?_⟩, fun i hi => ?_⟩
    · have := hc 0 hp'
      rw [List.getElem?_eq_getElem hp'] at this
      simp only [Addr.add, if_true] at this
      exact World.block_lt_of_cell? W ⟨b, o, none⟩ this
    · rw [← hc i hi, Go.WideShapes.add_plain]
  · obtain rfl : len = 0 := by omega
    exact ⟨_, 0, 0, cap, rfl, h1, h2, h3, fun h => absurd h hp, fun i hi => by simp at h3; simp [h3] at hi⟩
end
section
open Go.ChangeShapes Go.WideShapes Go.ChangeAt Go.RowKit
/-- one row: its value, the element's type, the cells of an element, the number of elements, the cells -/
structure Row where
  v : Value
  e : Nat
  sz : Nat
  n : Nat
  cs : List Value
/-- since W0 nothing old has changed; the rows L are the call's own, each in a block of its own -/
structure Held (W0 w : World) (L : List Row) : Prop where
  bel : Below W0.heap.size W0 w
  own : ∀ r ∈ L, w.ownsRow W0.heap.size r.e r.sz r.v r.n r.cs
  apart : L.Pairwise fun r r' => ∀ g, r.v.ownBlock = some g → r'.v.ownBlock ≠ some g
theorem Held.start (w : World) : Held w w [] := ⟨Below.refl _ _, (fun r h => by cases h), List.Pairwise.nil⟩
theorem Held.le {W0 w : World} {L : List Row} (H : Held W0 w L) : W0.heap.size ≤ w.heap.size := H.bel.size
theorem Held.grow {W0 w w' : World} {L : List Row} (H : Held W0 w L) (h : Below w.heap.size w w') : Held W0 w' L := by
  refine ⟨H.bel.trans (h.mono H.le), fun r hr => ?_, H.apart⟩
  have ho := H.own r hr
  refine ⟨ho.1, ?_⟩
  rcases ho.2 with h2 | ⟨g, cap, cur, h1, h2, h3, h4⟩
  · exact .inl h2
  · exact .inr ⟨g, cap, cur, h1, h2, by rw [h.block g (Array.getElem?_eq_some_iff.1 h3).1]; exact h3, h4⟩
theorem Held.ext {W0 w : World} {L : List Row} (H : Held W0 w L) (x : Ext) : Held W0 (ext w x) L := H.grow (Below_ext w x)
theorem Held.to {W0 w w' : World} {L : List Row} (H : Held W0 w L) (h : ∃ x, w' = Proofs.YtmehmpammjcnkaaDoor.ext w x) : Held W0 w' L := H.grow (bel_of_ext h)
/-- a row that was made since w -/
theorem Held.push {W0 w w' : World} {L : List Row} {v : Value} {e sz n : Nat} {cs : List Value} (H : Held W0 w L) (h : Below w.heap.size w w') (ho : w'.ownsRow w.heap.size e sz v n cs) : Held W0 w' (⟨v, e, sz, n, cs⟩ :: L) := by
  have H' := H.grow h
  refine ⟨H'.bel, fun r hr => ?_, List.Pairwise.cons (fun r hr g hg hg' => ?_) H'.apart⟩
  · rcases List.mem_cons.1 hr with rfl | hr
    · exact own_base ho H.le
    · exact H'.own r hr
  · have h1 := (ho.lt g hg).1
    have h2 := ((H.own r hr).lt g hg').2
    omega
theorem Held.drop {W0 w : World} {L : List Row} {r : Row} (H : Held W0 w (r :: L)) : Held W0 w L :=
  ⟨H.bel, fun r' h => H.own r' (List.mem_cons_of_mem _ h), H.apart.of_cons⟩
theorem Held.sl {W0 w : World} {L : List Row} (H : Held W0 w L) {v : Value} {e sz n : Nat} {cs : List Value} (h : (⟨v, e, sz, n, cs⟩ : Row) ∈ L) : Sl w sz v n cs := Sl_own (H.own _ h)
theorem Held.old {W0 w : World} {L : List Row} (H : Held W0 w L) {v : Value} {sz n : Nat} {cs : List Value} (h : Sl W0 sz v n cs) : Sl w sz v n cs := h.mono H.bel
/-- the first row's cells have changed, nothing else -/
theorem Held.write {W0 w w' : World} {L : List Row} {r : Row} {cs : List Value} (H : Held W0 w (r :: L)) (hg : w.grownBy w' r.v.ownBlock) (ho : w'.ownsRow W0.heap.size r.e r.sz r.v r.n cs) : Held W0 w' (⟨r.v, r.e, r.sz, r.n, cs⟩ :: L) := by
  have hr0 := H.own r List.mem_cons_self
  refine ⟨H.bel.grown hg H.le (fun k hk => (hr0.lt k hk).1), fun r' hr' => ?_, ?_⟩
  · rcases List.mem_cons.1 hr' with rfl | hr'
    · exact ho
    · refine (H.own r' (List.mem_cons_of_mem _ hr')).kept hg ?_
      cases hb : r'.v.ownBlock with
      | none => exact .inl rfl
      | some g =>
        refine .inr fun e => ?_
        exact (List.pairwise_cons.1 H.apart).1 r' hr' g e.symm hb
  · exact List.Pairwise.cons (List.pairwise_cons.1 H.apart).1 H.apart.of_cons
theorem Held.swap {W0 w : World} {L : List Row} {r r' : Row} (H : Held W0 w (r :: r' :: L)) : Held W0 w (r' :: r :: L) := by
  refine ⟨H.bel, fun q hq => H.own q (by simp only [List.mem_cons] at hq ⊢; rcases hq with h | h | h <;> simp [h]), ?_⟩
  have h := H.apart
  rw [List.pairwise_cons, List.pairwise_cons] at h
  rw [List.pairwise_cons, List.pairwise_cons]
  refine ⟨fun q hq g hg hg' => ?_, fun q hq => h.1 q (List.mem_cons_of_mem _ hq), h.2.2⟩
  rcases List.mem_cons.1 hq with rfl | hq
  · exact h.1 r' List.mem_cons_self g hg' hg
  · exact h.2.1 q hq g hg hg'
/-- any row to the front -/
theorem Held.front {W0 w : World} {L L' : List Row} (H : Held W0 w L) (p : L.Perm L') : Held W0 w L' := by
  refine ⟨H.bel, fun q hq => H.own q (p.mem_iff.2 hq), ?_⟩
  refine (p.pairwise_iff fun {r r'} h g hg hg' => ?_).1 H.apart
  exact h g hg' hg
theorem Held.fresh {W0 w1 w' : World} {v : Value} {e sz n : Nat} {cs : List Value} (ho : w'.ownsRow w1.heap.size e sz v n cs) (h1 : ∃ x, w1 = Proofs.YtmehmpammjcnkaaDoor.ext W0 x) (h2 : ∃ x, w' = Proofs.YtmehmpammjcnkaaDoor.ext w1 x) : Held W0 w' [⟨v, e, sz, n, cs⟩] :=
  ((Held.start W0).to h1).push (bel_of_ext h2) ho
theorem Held.append {W0 w w' : World} {L : List Row} {r : Row} {v' : Value} {n' : Nat} {cs' : List Value} (H : Held W0 w (r :: L)) (hg : w.grownBy w' r.v.ownBlock) (ho : w'.ownsRow W0.heap.size r.e r.sz v' n' cs')
    (hat : v'.ownBlock = r.v.ownBlock ∨ v'.ownBlock = some w.heap.size ∨ v'.ownBlock = none) : Held W0 w' (⟨v', r.e, r.sz, n', cs'⟩ :: L) := by
  have hr0 := H.own r List.mem_cons_self
  refine ⟨H.bel.grown hg H.le (fun k hk => (hr0.lt k hk).1), fun r' hr' => ?_, List.Pairwise.cons (fun r' hr' g hg1 hg2 => ?_) H.apart.of_cons⟩
  · rcases List.mem_cons.1 hr' with rfl | hr'
    · exact ho
    · refine (H.own r' (List.mem_cons_of_mem _ hr')).kept hg ?_
      cases hb : r'.v.ownBlock with
      | none => exact .inl rfl
      | some g =>
        refine .inr fun e => ?_
        exact (List.pairwise_cons.1 H.apart).1 r' hr' g e.symm hb
  · have h1 := ((H.own r' (List.mem_cons_of_mem _ hr')).lt g hg2).2
    simp only at hg1
    rcases hat with h | h | h
    · exact (List.pairwise_cons.1 H.apart).1 r' hr' g (by rw [← h]; exact hg1) hg2
    · rw [h] at hg1; cases hg1; omega
    · rw [h] at hg1; cases hg1
/-- rows that a callee has made -/
theorem Held.join {W0 w w' : World} {L L' : List Row} (H : Held W0 w L) (K : Held w w' L') : Held W0 w' (L' ++ L) := by
  have H' := H.grow K.bel
  refine ⟨H'.bel, fun r hr => ?_, List.pairwise_append.2 ⟨K.apart, H'.apart, fun r hr r' hr' g hg hg' => ?_⟩⟩
  · rcases List.mem_append.1 hr with hr | hr
    · exact own_base (K.own r hr) H.le
    · exact H'.own r hr
  · have h1 := ((K.own r hr).lt g hg).1
    have h2 := ((H.own r' hr').lt g hg').2
    omega
/-- an empty slice that was made -/
theorem Held.empty {W0 w : World} {L : List Row} (H : Held W0 w L) (e sz : Nat) : Held W0 (w.alloc (.cells #[] e)) (⟨.slice (some ⟨w.heap.size, 0, none⟩) 0 0, e, sz, 0, []⟩ :: L) :=
  H.push ((Below.refl _ _).alloc (Nat.le_refl _) _) (World.ownsRow_made w #[] 0 (Nat.le_refl _) (by simp [maxLen]) (by simp))
theorem perm_pull {α : Type} {r : α} : ∀ (L : List α) (i : Nat), L[i]? = some r → L.Perm (r :: L.eraseIdx i)
  | [], i, h => by simp at h
  | x :: L, 0, h => by
    have : x = r := by simpa using h
    subst this
    exact List.Perm.refl _
  | x :: L, i + 1, h => by
    have := perm_pull L i (by simpa using h)
    exact (List.Perm.cons x this).trans (List.Perm.swap _ _ _)
/-- row i to the front -/
theorem Held.pull {W0 w : World} {L : List Row} {r : Row} (H : Held W0 w L) (i : Nat) (h : L[i]? = some r) : Held W0 w (r :: L.eraseIdx i) := H.front (perm_pull L i h)
/-- what append and make ask of a slice type t with elements of type e -/
structure Elem (P : Program) (t e size bytes : Nat) (z : Value) : Prop where
  ut : P.underlying t = some (.slice e)
  info : (P.info? e).map (fun i => (i.zero, i.size, i.bytes)) = some (some z, size, bytes)
  zs : z.cells.size = size
  pos : 0 < size
/-! ### append -/
theorem run_append_sl {P : Program} (w : World) (base : Nat) (t ty e : TypeId) (z : Value) (size bytes : Nat) (E : Elem P t e size bytes z) (v u : Value) (n m : Nat) (xs news : List Value) (hown : w.ownsRow base e size v n xs) (hsl : Sl w size u m news) (h1 : ∀ u ∈ news, u.oneCell' = true)
    (h63 : n + m ≤ maxLen) (hbytes : (n + m) * bytes ≤ 140737488355328) (hbase : base ≤ w.heap.size) :
    ∃ v' w', (Builtin.append_ #[t, t] ty #[v, u]).run P w = .ok v' w' ∧ w'.ownsRow base e size v' (n + m) (xs ++ news) ∧ w.grownBy w' v.ownBlock ∧ (v'.ownBlock = v.ownBlock ∨ v'.ownBlock = some w.heap.size ∨ v'.ownBlock = none) := by
  obtain ⟨i, hi, hz, hsize, hby⟩ := info_parts E.info
  have ht := E.ut
  obtain ⟨a, b, o, cap, rfl, s1, s2, s3, s4, s5⟩ := hsl
  rcases Nat.eq_zero_or_pos m with rfl | hm
  · have hnews : news = [] := List.eq_nil_of_length_eq_zero (by simpa using s3)
    subst hnews
    have hr : (Builtin.append_ #[t, t] ty #[v, .slice a 0 cap]).run P w = .ok v w := by
      have e0 : (Builtin.firstCells size 0 (.slice a 0 cap)).run P w = .ok #[] w := by
        cases a <;> simp [Builtin.firstCells, loadCells, loadCellsFrom]
      rcases hown.2 with ⟨rfl, rfl⟩ | ⟨g, cap', cur, rfl, _, _, hnc, _⟩
      · simp [Builtin.append_, run_underlying ht, sizeOf, typeInfo, hi, Builtin.lenOf, hsize, e0]
      · simp [Builtin.append_, run_underlying ht, sizeOf, typeInfo, hi, Builtin.lenOf, hsize, e0, hnc, storeCells]
    exact ⟨v, w, hr, by simpa using hown, World.grownBy.refl _ _, .inl rfl⟩
  · obtain ⟨rfl, hb⟩ := s4 hm
    obtain ⟨g, cap', w', h2, h3, h4, h5, _⟩ := run_append_lies (P := P) w t ty base e i z size bytes ht hi hz hsize hby E.zs E.pos v n xs hown ⟨b, o, none⟩ m cap news s3 (fun j u hu => by
      have hj := (List.getElem?_eq_some_iff.1 hu).1
      rw [Go.WideShapes.add_plain, s5 j hj, hu]) h1 hm h63 hbytes hbase w.heap.size rfl
    refine ⟨_, w', h2, h3, h4, ?_⟩
    rcases h5 with h5 | h5
    · exact .inl h5.symm
    · exact .inr (.inl (by rw [h5]; rfl))
theorem wpList_append_held {P : Program} {W0 : World} {w : World} {L : List Row} {ops : Array Oper} {rest : List Oper} {o : Oper} {a : Act} {Q : Exit → Act → World → Prop} (hgd : o.guard = none) (s x : Operand) (t : TypeId)
    (ho : o.op = .call { callee := .builtin .append, args := #[s, x], argTypes := #[t, t] })
    {e size bytes : Nat} {z : Value} (E : Elem P t e size bytes z) {v u : Value} {n m : Nat} {xs news : List Value} (H : Held W0 w (⟨v, e, size, n, xs⟩ :: L)) (hs : a.eval s = v) (hx : a.eval x = u) (hsl : Sl w size u m news) (h1 : ∀ u ∈ news, u.oneCell' = true)
    (h63 : n + m ≤ maxLen) (hbytes : (n + m) * bytes ≤ 140737488355328)
    (h : ∀ v' w', Held W0 w' (⟨v', e, size, n + m, xs ++ news⟩ :: L) → wpList P ops Q rest (a.put o.dst v') w') : wpList P ops Q (o :: rest) a w := by
  refine wpList_plain hgd fun K hK => ?_
  obtain ⟨v', w', hr, h2, h3, h4⟩ := run_append_sl (P := P) w W0.heap.size t o.type e z size bytes E v u n m xs news (H.own _ List.mem_cons_self) hsl h1 h63 hbytes H.le
  unfold Oper.wp execOp
  simp only [ho, resolve, invoke, builtin, Sem.run_bind, Sem.run_pure, Result.andThen_ok, List.map_toArray, List.map_cons, List.map_nil, hs, hx, hr]
  exact hK _ _ (h v' w' (H.append h3 h2 h4))
theorem wpList_make_held {P : Program} {W0 : World} {w : World} {L : List Row} {ops : Array Oper} {rest : List Oper} {o : Oper} {a : Act} {Q : Exit → Act → World → Prop}
    (hg : o.guard = none) (l c : Operand) (t : TypeId) (hop : o.op = Op.makeSlice t l c) {e size bytes : Nat} {z : Value} (E : Elem P t e size bytes z) (H : Held W0 w L)
    (kl kc : IntKind) (N C : Int) (n : Nat) (hl : a.eval l = .int kl N) (hc : a.eval c = .int kc C) (hL : N = (n : Int)) (hC : C = (n : Int)) (b2 : bytes * n ≤ 281474976710656) (b3 : n ≤ maxLen)
    (hK : ∀ w', Held W0 w' (⟨.slice (some ⟨w.heap.size, 0, none⟩) n n, e, size, n, (madeCells z.cells (n * size)).toList⟩ :: L) → wpList P ops Q rest (a.put o.dst (.slice (some ⟨w.heap.size, 0, none⟩) n n)) w') :
    wpList P ops Q (o :: rest) a w := by
  obtain ⟨i, hi, hz, hsize, hby⟩ := info_parts E.info
  refine wpList_make_full w hg l c t hop w.heap.size e i z size E.ut hi hz hsize kl kc N C n hl hc hL hC (by rw [hby]; exact b2) b3 (Nat.le_refl _) fun w' h1 h2 => hK w' (H.push ((Below.refl _ _).grown h2 (Nat.le_refl _) (fun k hk => by cases hk)) h1)
theorem Sl_new1 (w : World) (u : Value) (t : TypeId) : Sl (w.alloc (.cells #[u] t)) 1 (.slice (some ⟨w.heap.size, 0, none⟩) 1 1) 1 [u] := by
  refine ⟨_, w.heap.size, 0, 1, rfl, Nat.le_refl _, by simp [maxLen], rfl, fun _ => ⟨rfl, by simp⟩, fun i hi => ?_⟩
  rw [Nat.zero_add, World.cell?_alloc_at _ _ _ _ rfl]
  simp
/-- a new block of cells, read as a slice -/
theorem Sl_new (w : World) (cs : Array Value) (t : TypeId) (sz n : Nat) (h : cs.size = n * sz) (hn : n ≤ maxLen) (hsz : 0 < sz) : Sl (w.alloc (.cells cs t)) sz (.slice (some ⟨w.heap.size, 0, none⟩) n n) n cs.toList := by
  refine ⟨_, w.heap.size, 0, n, rfl, Nat.le_refl _, hn, by simpa using h, fun _ => ⟨rfl, by simp⟩, fun i hi => ?_⟩
  rw [Nat.zero_add, World.cell?_alloc_at _ _ _ _ rfl]
  simp
end
section
open Go.ChangeShapes Go.WideShapes Go.ChangeAt Go.RowKit
theorem infoInt : (Tryd.prog.info? 3).map (fun i => i.size) = some 1 := by kernel_rfl
theorem infoInt3 : (Tryd.prog.info? 3).map (fun i => (i.zero, i.size, i.bytes)) = some (some (.int .i64 0), 1, 8) := by kernel_rfl
theorem IntsAt.opn {w : World} {v : Value} {xs : List Int} (h : IntsAt w v xs) :
    ∃ a b o cap, v = .slice a xs.length cap ∧ xs.length ≤ cap ∧ xs.length ≤ 9223372036854775807 ∧ cap ≤ 9223372036854775807 ∧ ∀ k, k < xs.length → Old w b ∧ (∀ w', (Instr.indexAt 22 (.slice a xs.length cap) (.int .i64 k)).run Tryd.prog w' = .ok (.pointer (some ⟨b, o + k, none⟩)) w') ∧
      w.cell? ⟨b, o + k, none⟩ = some (.int .i64 (nth xs k)) := by
  obtain ⟨a, b, o, cap, rfl, h1, h2, h3, h4⟩ := Sl.idx h Tryd.underlying22 infoInt
  refine ⟨a, b, o, cap, rfl, h1, h2, h3, fun k hk => ?_⟩
  obtain ⟨g1, g2, g3⟩ := h4 k hk
  refine ⟨g1, fun w' => by have := g2 w'; rwa [Nat.mul_one] at this, ?_⟩
  have := g3 0 (by omega)
  rw [Nat.mul_one, Nat.add_zero, Nat.add_zero] at this
  rw [this, getElem_of_nth hk]
theorem slice_to (a : Option Addr) (n cap k : Nat) (h : k ≤ cap) (w : World) :
    (Instr.slice 22 (.slice a n cap) none (some (.int .i64 k)) none).run Tryd.prog w = .ok (.slice a k cap) w := by
  obtain ⟨i, h1, h2⟩ := Option.map_eq_some_iff.1 infoInt
  have e : (fun x : Addr => x.add 0) = id := by funext x; simp [Addr.add]
  simp [Instr.slice, run_underlying Tryd.underlying22, Instr.sliceBounds, Instr.sliceBound, asIntOf, h, sizeOf, typeInfo, h1, e]
theorem IntsAt.take {w : World} {a : Option Addr} {n cap : Nat} {l : List Int} (h : IntsAt w (.slice a n cap) l) {k : Nat} (hk : k ≤ l.length) : IntsAt w (.slice a k cap) (l.take k) := by
  obtain ⟨a', b, o, cap', e, h1, h2, h3, h4, h5⟩ := h
  simp only [Value.slice.injEq] at e
  obtain ⟨rfl, rfl, rfl⟩ := e
  have hl : (l.take k).length = k := by simp; omega
  refine ⟨a, b, o, cap, by rw [hl], by omega, h2, by simp, fun hn => h4 (by omega), fun i hi => ?_⟩
  have hi' : i < k := by simp at hi; omega
  rw [h5 i (by simp; omega), List.map_take, List.getElem?_take, if_pos hi']
theorem nth_take {l : List Int} {k i : Nat} (h : i < k) : nth (l.take k) i = nth l i := by simp [nth, List.getD, h]
end
section
open Go.ChangeShapes Go.WideShapes Go.ChangeAt Go.RowKit
/-- the call's own row: a fresh slice -/
abbrev OwnI (w : World) (B : Nat) (v : Value) (xs : List Int) : Prop := w.ownsRow B 3 1 v xs.length (xs.map iv)
theorem IntsAt_own {w : World} {B : Nat} {v : Value} {xs : List Int} (h : OwnI w B v xs) : IntsAt w v xs := Sl_own h
theorem OwnI.ext {w : World} {B : Nat} {v : Value} {xs : List Int} (h : OwnI w B v xs) (x : Ext) : OwnI (ext w x) B v xs := by
  refine ⟨h.1, ?_⟩
  rcases h.2 with h2 | ⟨g, cap, cur, h1, h2, h3, h4⟩
  · exact .inl h2
  · exact .inr ⟨g, cap, cur, h1, h2, by rw [heap_ext w x (Array.getElem?_eq_some_iff.1 h3).1]; exact h3, h4⟩
/-- k elements written, the rest noughts -/
def part (xs : List Int) (k : Nat) : List Value := (xs.take k).map iv ++ List.replicate (xs.length - k) (iv 0)
theorem part_zero (xs : List Int) : part xs 0 = List.replicate xs.length (iv 0) := by simp [part]
theorem part_all (xs : List Int) : part xs xs.length = xs.map iv := by simp [part]
theorem part_step (xs : List Int) (k : Nat) (h : k < xs.length) : (part xs k).set k (iv (nth xs k)) = part xs (k + 1) := by
  apply List.ext_getElem?
  intro i
  simp only [part, List.getElem?_set, List.getElem?_append, List.getElem?_map, List.getElem?_take, List.length_map, List.length_take, List.length_append, List.length_replicate, List.getElem?_replicate]
  by_cases hi : k = i
  · subst hi
    simp [h, nth, show k < min (k + 1) xs.length by omega, show k < min k xs.length + (xs.length - k) by omega]
  · simp only [hi, if_false]
    by_cases h2 : i < k
    · simp [show i < min k xs.length by omega, show i < min (k + 1) xs.length by omega, h2, show i < k + 1 by omega]
    · simp only [show ¬ i < min k xs.length by omega, show ¬ i < min (k + 1) xs.length by omega, if_false]
      by_cases h3 : i < xs.length
      · rw [if_pos (by omega), if_pos (by omega)]
      · rw [if_neg (by omega), if_neg (by omega)]
theorem part_length (xs : List Int) (k : Nat) (h : k ≤ xs.length) : (part xs k).length = xs.length := by simp [part]; omega
theorem part_cell (xs : List Int) (k : Nat) (h : k < xs.length) : ∃ u, (part xs k)[k]? = some u := by
  have := part_length xs k (by omega)
  exact ⟨(part xs k)[k], by simp [this, h]⟩
theorem madeOne (z : Value) (n : Nat) : (madeCells #[z] n).toList = List.replicate n z := by
  apply List.ext_getElem?
  intro i
  by_cases h : i < n <;> simp [madeCells, h, Nat.mod_one]
theorem toIntS_any (xs : List Int) (v : Value) (w : World) (h : IntsAt w v xs) (hs : xs.length ≤ 1099511627776) :
    Calls Tryd.prog 11 #[v] w fun e w' => ∃ v', e = .returned v' ∧ (∃ x, w' = ext w x) ∧ OwnI w' w.heap.size v' xs := by
  obtain ⟨a, b, o, cap, rfl, hc1, hc2, hc3, hcell⟩ := h.opn
  obtain ⟨i0, hi, hz0, hz1, hz2⟩ := info_parts infoInt3
  have HZ2 := Lib.hid hz2
  have HZ1 := Lib.hid hz1
  have HZ0 := Lib.hid hz0
  have HI := Lib.hid hi
  clear hz0 hz1 hz2 hi
  go_enter Tryd.func11, Tryd.ntmps11
  go_wp2_with (first | (at_make; refine wpList_make_full _ rfl _ _ 22 rfl w.heap.size 3 i0 (.int .i64 0) 1 Tryd.underlying22 HI.out HZ0.out HZ1.out .i64 .i64 _ _ xs.length rfl rfl rfl rfl (by rw [HZ2.out]; omega) (by unfold maxLen; omega) (Nat.le_refl _) ?_; intro w1 hown hgrow))
  have hz : (madeCells (Value.int .i64 0).cells (xs.length * 1)).toList = part xs 0 := by rw [part_zero, Nat.mul_one]; exact madeOne _ _
  rw [hz] at hown
  have hbel : Below w.heap.size w w1 := (Below.refl _ _).grown hgrow (Nat.le_refl _) (fun k hk => by cases hk)
  clear hz hgrow
  go_loopw [4] (fun i wr => ∃ k : Nat, k ≤ xs.length ∧ i = .int .i64 k ∧ wr.ownsRow w.heap.size 3 1 (.slice (some ⟨w.heap.size, 0, none⟩) xs.length xs.length) xs.length (part xs k) ∧ Below w.heap.size w wr) (fun i _ => xs.length - (intOf i).toNat)
  case atStart => exact ⟨0, Nat.zero_le _, rfl, hown, hbel⟩
  case round =>
    clear hown hbel
    obtain ⟨k, hk, rfl, hown, hbel⟩ := hrel
    by_cases hlt : k < xs.length
    · obtain ⟨hb, hi, hck⟩ := hcell k hlt
      clear hcell
      have hck2 : wr.cell? ⟨b, o + k, none⟩ = some (.int .i64 (nth xs k)) := by rw [hbel.cell (p := ⟨b, o + k, none⟩) hb.lt]; exact hck
      obtain ⟨u, hu⟩ := part_cell xs k hlt
      have hc0 : wr.cell? ⟨w.heap.size, k, none⟩ = some u := by rw [hown.cellAt k (by omega), hu]
      have hf0 : wr.frozen? ⟨w.heap.size, k, none⟩ = false := hown.frozenAt k
      have hst := hown.stored k (iv (nth xs k))
      rw [part_step xs k hlt] at hst
      have HST := Lib.hid hst
      have HOW := Lib.hid hown
      clear hst hown hu
      go_wp2_with fail
      go_roundw
      case rel => exact ⟨k + 1, hlt, int_succ k, HST.out.1, hbel.setCell (Nat.le_refl _) _⟩
      case measure => simp [intOf]; omega
    · go_wp2_with fail
      go_ret
      obtain rfl : k = xs.length := by omega
      rw [part_all] at hown
      obtain ⟨x, rfl⟩ := ext_of hbel
      exact ⟨_, rfl, ⟨x, rfl⟩, hown⟩
def eqInts (a b : List Int) : Bool := decide (a.length = b.length) && allTo (fun k => nth a k == nth b k) a.length
theorem eqInts_self (a : List Int) : eqInts a a = true := by simp [eqInts, allTo_true]
theorem eqInts_eq {a b : List Int} (h : eqInts a b = true) : a = b := by
  simp [eqInts, allTo_true, nth] at h
  apply List.ext_getElem h.1
  intro i h1 h2
  have := h.2 i h1
  simpa [h1, h2] using this
theorem eqIntS_any (xs ys : List Int) (v u : Value) (w : World) (h : IntsAt w v xs) (h' : IntsAt w u ys) :
    Calls Tryd.prog 13 #[v, u] w fun e w' => e = .returned (.bool (eqInts xs ys)) ∧ ∃ x, w' = ext w x := by
  obtain ⟨a, b, o, cap, rfl, hc1, hc2, hc3, hcell⟩ := h.opn
  obtain ⟨a', b', o', cap', rfl, hc1', hc2', hc3', hcell'⟩ := h'.opn
  by_cases hl : xs.length = ys.length
  · have hne : ((xs.length : Int) != ys.length) = false := by simp [hl]
    have HL := Lib.hid hl
    have hle : xs.length ≤ ys.length := by omega
    clear hl
    go_enter Tryd.func13, Tryd.ntmps13
    go_wp2_with fail
    go_loopw [5] (fun i wr => ∃ k : Nat, k ≤ xs.length ∧ i = .int .i64 k ∧ allTo (fun k => nth xs k == nth ys k) k = true ∧ ∃ x, wr = ext w x) (fun i _ => xs.length - (intOf i).toNat)
    case atStart => exact ⟨0, Nat.zero_le _, rfl, rfl, (by repeat (first | exact ext_refl _ | (with_reducible assumption) | refine ext_ext' ?_ _ | refine ext_alloc' ?_ _ | refine ext_drew' ?_))⟩
    case round =>
      obtain ⟨k, hk, rfl, hall, x, rfl⟩ := hrel
      have HA := Lib.hid hall
      clear hall
      by_cases hlt : k < xs.length
      · obtain ⟨hb, hi, hck⟩ := hcell k hlt
        obtain ⟨hb', hi', hck'⟩ := hcell' k (by omega)
        clear hcell hcell'
        cases hq : nth xs k == nth ys k
        all_goals
          have hq' : (nth xs k != nth ys k) = !(nth xs k == nth ys k) := rfl
          rw [hq] at hq'
          go_wp2_with fail
          refine wp_region_ext_lit (by kernel_rfl) (by kernel_rfl) ?_
          repeat (go_big_quiet_step (fail))
          refine wpQuiet_nil ?_
          intro _ hwq
          obtain ⟨xq, hwq⟩ := hwq
          subst hwq
          go_wp2_with fail
        · go_ret
          exact ⟨ret_bool (by simp only [eqInts, allTo_false (p := fun k => nth xs k == nth ys k) hlt hq, Bool.and_false]), (by repeat (first | exact ext_refl _ | (with_reducible assumption) | refine ext_ext' ?_ _ | refine ext_alloc' ?_ _ | refine ext_drew' ?_))⟩
        · go_roundw
          case rel => exact ⟨k + 1, hlt, int_succ k, allTo_succ HA.out hq, (by repeat (first | exact ext_refl _ | (with_reducible assumption) | refine ext_ext' ?_ _ | refine ext_alloc' ?_ _ | refine ext_drew' ?_))⟩
          case measure => simp [intOf]; omega
      · go_wp2_with fail
        go_ret
        obtain rfl : k = xs.length := by omega
        exact ⟨ret_bool (by rw [eqInts, HA.out, decide_eq_true HL.out]; rfl), (by repeat (first | exact ext_refl _ | (with_reducible assumption) | refine ext_ext' ?_ _ | refine ext_alloc' ?_ _ | refine ext_drew' ?_))⟩
  · have hne : ((xs.length : Int) != ys.length) = true := by simp; omega
    have HL := Lib.hid hl
    clear hl
    go_enter Tryd.func13, Tryd.ntmps13
    go_wp2_with fail
    go_ret
    exact ⟨ret_bool (by simp [eqInts, HL.out]), (by repeat (first | exact ext_refl _ | (with_reducible assumption) | refine ext_ext' ?_ _ | refine ext_alloc' ?_ _ | refine ext_drew' ?_))⟩
end
section
open Go.ChangeShapes Go.WideShapes Go.ChangeAt Go.RowKit
def marks (k : Int) (n : Nat) : List Int := (List.range n).map fun i : Nat => k + (i : Int)
theorem marks_len (k : Int) (n : Nat) : (marks k n).length = n := by simp [marks]
theorem marks_nth (k : Int) (n i : Nat) (h : i < n) : nth (marks k n) i = k + i := by simp [marks, nth, List.getD, h]
/-- j elements marked -/
def marked (xs : List Int) (k : Int) (j : Nat) : List Value := (marks k j).map iv ++ (xs.drop j).map iv
theorem marked_zero (xs : List Int) (k : Int) : marked xs k 0 = xs.map iv := by simp [marked, marks]
theorem marked_all (xs : List Int) (k : Int) : marked xs k xs.length = (marks k xs.length).map iv := by simp [marked]
theorem marked_step (xs : List Int) (k : Int) (j : Nat) (h : j < xs.length) : (marked xs k j).set j (iv (k + j)) = marked xs k (j + 1) := by
  have e1 : ((marks k j).map iv).length = j := by simp [marks]
  have e2 : (marks k (j + 1)) = marks k j ++ [k + (j : Int)] := by simp [marks, List.range_succ]
  have e3 : xs.drop j = xs[j] :: xs.drop (j + 1) := List.drop_eq_getElem_cons h
  have e4 : (xs.drop j).map iv = iv xs[j] :: (xs.drop (j + 1)).map iv := by rw [e3]; rfl
  rw [marked, marked, e2, e4, List.set_append_right _ _ (by omega), e1, Nat.sub_self, List.set_cons_zero, List.map_append, List.append_assoc]
  rfl
theorem marked_cell (xs : List Int) (k : Int) (j : Nat) (h : j < xs.length) : ∃ u, (marked xs k j)[j]? = some u := by
  have : j < (marked xs k j).length := by simp [marked, marks]; omega
  exact ⟨_, List.getElem?_eq_getElem this⟩
theorem grown_trans {a b c : World} {row : Option Nat} (h : a.grownBy b row) (k : b.grownBy c row) : a.grownBy c row :=
  ⟨k.os.trans h.os, k.tape.trans h.tape, k.output.trans h.output, Nat.le_trans h.size k.size, fun i hi hne => (k.block i (Nat.lt_of_lt_of_le hi h.size) hne).trans (h.block i hi hne)⟩
theorem markIntS_any (xs : List Int) (v : Value) (k : Int) (B : Nat) (w : World) (ho : OwnI w B v xs) (h0 : 0 ≤ k) (h1 : k ≤ 1099511627776) (hs : xs.length ≤ 1099511627776) :
    Calls Tryd.prog 18 #[v, .int .i64 k] w fun e w' => e = .returned (.int .i64 (k + xs.length)) ∧ w.grownBy w' v.ownBlock ∧ OwnI w' B v (marks k xs.length) := by
  have hlen : (marks k xs.length).length = xs.length := marks_len k _
  rcases ho.2 with ⟨rfl, hn⟩ | ⟨g, cap, cur, rfl, hB, hg, hnc, hcm, hcs, htk⟩
  · have hx : xs = [] := List.eq_nil_of_length_eq_zero hn
    subst hx
    go_enter Tryd.func18, Tryd.ntmps18
    go_wp2_with fail
    go_loop [1, 5] (fun kk i => i = .int .i64 0 ∧ kk = .int .i64 k) (fun _ _ => 0)
    case atStart => exact ⟨rfl, rfl⟩
    case round =>
      obtain ⟨rfl, rfl⟩ := hrel
      go_wp2_with fail
      go_ret
      exact ⟨ret_int (by simp), World.grownBy.refl _ _, by simpa [marks] using ho⟩
  · have HO := Lib.hid ho
    have hz := marked_zero xs k
    have hB' : Old w g := ⟨(Array.getElem?_eq_some_iff.1 hg).1⟩
    unfold maxLen at hcm
    clear hcs htk hg ho
    go_enter Tryd.func18, Tryd.ntmps18
    go_wp2_with fail
    go_loopw [1, 5] (fun kk i wr => ∃ j : Nat, j ≤ xs.length ∧ i = .int .i64 j ∧ kk = .int .i64 (k + j) ∧ wr.ownsRow B 3 1 (.slice (some ⟨g, 0, none⟩) xs.length cap) xs.length (marked xs k j) ∧ w.grownBy wr (some g)) (fun _ i _ => xs.length - (intOf i).toNat)
    case atStart => exact ⟨0, Nat.zero_le _, rfl, by simp, by rw [hz]; exact HO.out, World.grownBy.refl _ _⟩
    case round =>
      clear hz
      obtain ⟨j, hj, rfl, rfl, hown, hgr⟩ := hrel
      by_cases hlt : j < xs.length
      · obtain ⟨u, hu⟩ := marked_cell xs k j hlt
        have hc0 : wr.cell? ⟨g, j, none⟩ = some u := by rw [hown.cellAt j (by omega), hu]
        have hf0 : wr.frozen? ⟨g, j, none⟩ = false := hown.frozenAt j
        have hst := hown.stored j (iv (k + j))
        rw [marked_step xs k j hlt] at hst
        have HST := Lib.hid hst
        have HG := Lib.hid hgr
        clear hst hown hu hgr
        go_wp2_with fail
        go_roundw
        case rel => exact ⟨j + 1, hlt, int_succ j, by congr 1; omega, HST.out.1, grown_trans HG.out HST.out.2⟩
        case measure => simp [intOf]; omega
      · obtain rfl : j = xs.length := by omega
        rw [marked_all] at hown
        go_wp2_with fail
        go_ret
        exact ⟨rfl, hgr, by rw [OwnI, hlen]; exact hown⟩
theorem heldIntS_any (n : Nat) (v : Value) (k : Int) (w : World) (h : IntsAt w v (marks k n)) (h0 : 0 ≤ k) (h1 : k ≤ 1099511627776) (hs : n ≤ 1099511627776) :
    Calls Tryd.prog 19 #[v, .int .i64 k] w fun e w' => e = .returned (.int .i64 (k + n)) ∧ ∃ x, w' = ext w x := by
  obtain ⟨a, b, o, cap, rfl, hc1, hc2, hc3, hcell⟩ := h.opn
  have hlen : (marks k n).length = n := marks_len k _
  rw [hlen] at hc1 hc2 hcell h ⊢
  have HC := Lib.hid hcell
  clear hlen hcell
  go_enter Tryd.func19, Tryd.ntmps19
  go_wp2_with fail
  go_loopw [1, 5] (fun kk i wr => ∃ j : Nat, j ≤ n ∧ i = .int .i64 j ∧ kk = .int .i64 (k + j) ∧ ∃ x, wr = ext w x) (fun _ i _ => n - (intOf i).toNat)
  case atStart => exact ⟨0, Nat.zero_le _, rfl, by simp, (by repeat (first | exact ext_refl _ | (with_reducible assumption) | refine ext_ext' ?_ _ | refine ext_alloc' ?_ _ | refine ext_drew' ?_))⟩
  case round =>
    obtain ⟨j, hj, rfl, rfl, x, rfl⟩ := hrel
    by_cases hlt : j < n
    · obtain ⟨hb, hi, hck⟩ := HC.out j hlt
      rw [marks_nth k n j hlt] at hck
      have hq : (k + (j : Int) != k + j) = false := by simp
      go_wp2_with fail
      go_roundw
      case rel => exact ⟨j + 1, hlt, int_succ j, by congr 1; omega, (by repeat (first | exact ext_refl _ | (with_reducible assumption) | refine ext_ext' ?_ _ | refine ext_alloc' ?_ _ | refine ext_drew' ?_))⟩
      case measure => simp [intOf]; omega
    · obtain rfl : j = n := by omega
      go_wp2_with fail
      go_ret
      exact ⟨rfl, (by repeat (first | exact ext_refl _ | (with_reducible assumption) | refine ext_ext' ?_ _ | refine ext_alloc' ?_ _ | refine ext_drew' ?_))⟩
abbrev rowI (v : Value) (xs : List Int) : Row := ⟨v, 3, 1, xs.length, xs.map iv⟩
theorem elemInt : Elem Tryd.prog 22 3 1 8 (.int .i64 0) := ⟨Tryd.underlying22, infoInt3, rfl, by decide⟩
theorem Held.ints {W0 w : World} {L : List Row} (H : Held W0 w L) {v : Value} {xs : List Int} (h : rowI v xs ∈ L) : IntsAt w v xs := H.sl h
theorem Held.ints0 {W0 w : World} {L : List Row} {v : Value} {xs : List Int} (H : Held W0 w (rowI v xs :: L)) : IntsAt w v xs := H.sl List.mem_cons_self
theorem Held.oldI {W0 w : World} {L : List Row} (H : Held W0 w L) {v : Value} {xs : List Int} (h : IntsAt W0 v xs) : IntsAt w v xs := h.mono H.bel
theorem markIntS_held {W0 : World} {L : List Row} (xs : List Int) (v : Value) (k : Int) (w : World) (H : Held W0 w (rowI v xs :: L)) (h0 : 0 ≤ k) (h1 : k ≤ 1099511627776) (hs : xs.length ≤ 1099511627776) :
    Calls Tryd.prog 18 #[v, .int .i64 k] w fun e w' => e = .returned (.int .i64 (k + xs.length)) ∧ Held W0 w' (rowI v (marks k xs.length) :: L) :=
  (markIntS_any xs v k W0.heap.size w (H.own _ List.mem_cons_self) h0 h1 hs).mono fun e w' ⟨he, hg, ho⟩ => ⟨he, by
    have hl := marks_len k xs.length
    have := H.write (cs := (marks k xs.length).map iv) hg (by rw [OwnI, hl] at ho; exact ho)
    rw [rowI, hl]; exact this⟩
end
section
open Go.ChangeShapes Go.WideShapes Go.ChangeAt Go.RowKit
theorem Held.nilI {W0 w : World} {L : List Row} (H : Held W0 w L) : Held W0 w (⟨.slice none 0 0, 3, 1, 0, []⟩ :: L) := ⟨H.bel, (fun r hr => by
  rcases List.mem_cons.1 hr with rfl | hr
  · exact World.ownsRow_nil _ _ _ _
  · exact H.own r hr), List.Pairwise.cons (fun r hr g hg => by simp [Value.ownBlock] at hg) H.apart⟩
theorem one_lit (x : Int) : ∀ u ∈ [Value.int .i64 x], u.oneCell' = true := by intro u hu; simp at hu; subst hu; rfl
theorem Held.snoc {W0 w : World} {L : List Row} {v : Value} {xs : List Int} {x : Int} (H : Held W0 w (⟨v, 3, 1, xs.length + 1, xs.map iv ++ [.int .i64 x]⟩ :: L)) : Held W0 w (rowI v (xs ++ [x]) :: L) := by
  have e : (xs ++ [x]).map iv = xs.map iv ++ [.int .i64 x] := by simp [iv]
  rw [rowI, e, List.length_append]; exact H
theorem Held.first {W0 w : World} {L : List Row} {r : Row} (H : Held W0 w (r :: L)) : Held W0 w [r] := ⟨H.bel, fun q hq => by simp at hq; subst hq; exact H.own _ List.mem_cons_self, by simp⟩
theorem Held.rowV {W0 w : World} {L : List Row} {v : Value} {xs : List Int} (H : Held W0 w (rowI v xs :: L)) : ∃ a c, v = .slice a xs.length c := own_slice (H.own _ List.mem_cons_self)
theorem Held.base {W0 W1 w : World} {L : List Row} (hb : Below W0.heap.size W0 W1) (H : Held W1 w L) : Held W0 w L :=
  ⟨hb.trans (H.bel.mono hb.size), fun r hr => own_base (H.own r hr) hb.size, H.apart⟩
theorem Held.unbox {w wr : World} {o : Obj} {L : List Row} (H : Held (w.alloc o) wr L) : Held w wr L := H.base ((Below.refl _ _).alloc (Nat.le_refl _) _)
theorem Held.box2 {w wr : World} {u v : Value} {t : TypeId} {L : List Row} (H : Held (w.alloc (.cells #[u, v] t)) wr L) : wr.cell? ⟨w.heap.size, 0, none⟩ = some u ∧ wr.cell? ⟨w.heap.size, 1, none⟩ = some v := by
  have h := fun i => H.bel.cell (p := ⟨w.heap.size, i, none⟩) (by rw [World.size_alloc]; simp)
  exact ⟨by rw [h, World.cell?_alloc_at _ _ _ _ rfl]; rfl, by rw [h, World.cell?_alloc_at _ _ _ _ rfl]; rfl⟩
theorem Held.boxOld {w wr : World} {o : Obj} {L : List Row} (H : Held (w.alloc o) wr L) : Old wr w.heap.size := ⟨by have := H.bel.size; rw [World.size_alloc] at this; omega⟩
def IntsPost (w : World) (xs : List Int) (e : Ending) (w' : World) : Prop := ∃ v', e = .returned v' ∧ Held w w' [rowI v' xs]
theorem IntsPost.nil {w w' : World} {xs : List Int} (h : xs = []) (hx : ∃ x, w' = ext w x) : IntsPost w xs (.returned (.slice none 0 0)) w' := by
  subst h; exact ⟨_, rfl, (((Held.start w).to hx).nilI)⟩
theorem IntsPost.empty {w w' : World} {xs : List Int} {v : Value} {L : List Row} (h : xs = []) (H : Held w w' (⟨v, 3, 1, 0, []⟩ :: L)) : IntsPost w xs (.returned v) w' := by
  subst h; exact ⟨_, rfl, H.first⟩
theorem IntsPost.got {w w' : World} {xs ys : List Int} {v : Value} {L : List Row} (h : xs = ys) (H : Held w w' (rowI v ys :: L)) : IntsPost w xs (.returned v) w' := by
  subst h; exact ⟨_, rfl, H.first⟩
theorem takeI_held {W0 w w' : World} {L : List Row} {v : Value} {xs : List Int} (H : Held W0 w L) (hx : ∃ x, w' = ext w x) (K : OwnI w' w.heap.size v xs) : Held W0 w' (rowI v xs :: L) := H.push (bel_of_ext hx) K
theorem Held.take1 {W0 w w' : World} {L : List Row} {v : Value} {xs : List Int} (H : Held W0 w L) (K : Held w w' [rowI v xs]) : Held W0 w' (rowI v xs :: L) := H.join K
theorem wpList_make_any {P : Program} {W0 : World} {w : World} {L : List Row} {ops : Array Oper} {rest : List Oper} {o : Oper} {a : Act} {Q : Exit → Act → World → Prop}
    (hg : o.guard = none) (l c : Operand) (t : TypeId) (hop : o.op = Op.makeSlice t l c) {e size bytes : Nat} {z : Value} (E : Elem P t e size bytes z) (H : Held W0 w L)
    (kl kc : IntKind) (N C : Int) (n : Nat) (hl : a.eval l = .int kl N) (hc : a.eval c = .int kc C) (hL : N = (n : Int)) (hC : C = (n : Int)) (b2 : bytes * n ≤ 281474976710656) (b3 : n ≤ maxLen)
    (hK : ∀ g w', Held W0 w' (⟨.slice (some ⟨g, 0, none⟩) n n, e, size, n, (madeCells z.cells (n * size)).toList⟩ :: L) → wpList P ops Q rest (a.put o.dst (.slice (some ⟨g, 0, none⟩) n n)) w') :
    wpList P ops Q (o :: rest) a w := wpList_make_held hg l c t hop E H kl kc N C n hl hc hL hC b2 b3 (hK _)
theorem Held.oldRow {W0 w : World} {L : List Row} {g n cap : Nat} {xs : List Int} (H : Held W0 w (rowI (.slice (some ⟨g, 0, none⟩) n cap) xs :: L)) : Old w g := ⟨((H.own _ List.mem_cons_self).lt g rfl).2⟩
/-! ### a drawn region whose first operations only read what was there when the call began, and that then appends -/
theorem wp_region_heldB {P : Program} {W0 : World} {id : Nat} {Q : Exit → Act → World → Prop} {a : Act} {w : World} {ops : Array Oper} (_ : Below W0.heap.size W0 w) (hm : P.follows .mixedOrders = true)
    (h : wpAnyH P .any ops Q (fun w' => Below W0.heap.size W0 w') ops.size (Array.replicate ops.size false) a w.drew) : (Code.region id ops true).wp P Q a w :=
  wp_region_held hm h
theorem takeB {P : Program} {ops : Array Oper} {Q : Exit → Act → World → Prop} {W0 : World} {i : Nat} {oi : Oper} {v : Value} {fuel : Nat} {listed : Array Bool} {a : Act} {w : World} (hi : ops[i]? = some oi)
    (hs : Region.noSelect ops = true) (hf : Region.free .any ops listed i = true) (hr : (Region.ready .any ops listed).contains i = true)
    (hQ : ∀ c a w, Q (.panic c) (a.put oi.dst v) w → Q (.panic c) a w) (hw : Region.wanted oi (yielded ops a.tmps) = true) (hy : ∀ w', Below W0.heap.size W0 w' → (execOp a.eval oi).run P w' = .ok (.value v) w') (hS : Below W0.heap.size W0 w)
    (h : wpAnyH P .any ops Q (fun w' => Below W0.heap.size W0 w') fuel (listed.setIfInBounds i true) (a.put oi.dst v) w) : wpAnyH P .any ops Q (fun w' => Below W0.heap.size W0 w') (fuel + 1) listed a w :=
  wpAnyH_take hi hs hf hr hQ (.inl ⟨hw, hy⟩) hS h
theorem below_box2 {w wr : World} {u v : Value} {t : TypeId} (hb : Below (w.alloc (.cells #[u, v] t)).heap.size (w.alloc (.cells #[u, v] t)) wr) : wr.cell? ⟨w.heap.size, 0, none⟩ = some u ∧ wr.cell? ⟨w.heap.size, 1, none⟩ = some v :=
  Held.box2 (L := []) ⟨hb, (fun r h => by cases h), List.Pairwise.nil⟩
theorem opwp_append_held {P : Program} {W0 : World} {w : World} {L : List Row} {o : Oper} {a : Act} {K : Act → World → Prop} {Q : Exit → Act → World → Prop} (s x : Operand) (t : TypeId)
    (ho : o.op = .call { callee := .builtin .append, args := #[s, x], argTypes := #[t, t] })
    {e size bytes : Nat} {z : Value} (E : Elem P t e size bytes z) {v u : Value} {n m : Nat} {xs news : List Value} (H : Held W0 w (⟨v, e, size, n, xs⟩ :: L)) (hs : a.eval s = v) (hx : a.eval x = u) (hsl : Sl w size u m news) (h1 : ∀ u ∈ news, u.oneCell' = true)
    (h63 : n + m ≤ maxLen) (hbytes : (n + m) * bytes ≤ 140737488355328)
    (h : ∀ v' w', Held W0 w' (⟨v', e, size, n + m, xs ++ news⟩ :: L) → K (a.put o.dst v') w') : Oper.wp P o a w K Q := by
  obtain ⟨v', w', hr, h2, h3, h4⟩ := run_append_sl (P := P) w W0.heap.size t o.type e z size bytes E v u n m xs news (H.own _ List.mem_cons_self) hsl h1 h63 hbytes H.le
  unfold Oper.wp execOp
  simp only [ho, resolve, invoke, builtin, Sem.run_bind, Sem.run_pure, Result.andThen_ok, List.map_toArray, List.map_cons, List.map_nil, hs, hx, hr]
  exact h v' w' (H.append h3 h2 h4)
end
section
open Go.ChangeShapes Go.WideShapes Go.ChangeAt Go.RowKit
def bsOf (l : List UInt8) : ByteArray := ⟨l.toArray⟩
theorem bsOf_nil : bsOf [] = ⟨#[]⟩ := rfl
theorem bsOf_list (l : List UInt8) : (bsOf l).data.toList = l := rfl
class LenOK (l : List UInt8) : Prop where
  le : l.length ≤ 1099511627776
theorem bsOf_cat (l m : List UInt8) : bsOf l ++ bsOf m = bsOf (l ++ m) := by
  apply ByteArray.ext
  simp [bsOf]
theorem op_cat (l m : List UInt8) (h : l.length ≤ 1099511627776) (h' : m.length ≤ 1099511627776) : Op.stringOp .add (bsOf l) (bsOf m) = pure (.string (bsOf (l ++ m))) := by
  unfold Op.stringOp
  have e : ¬ (((bsOf l).size + (bsOf m).size : Nat) : Int) > IntKind.i64.max := by
    have e1 : (bsOf l).size = l.length := by simp [bsOf, ByteArray.size]
    have e2 : (bsOf m).size = m.length := by simp [bsOf, ByteArray.size]
    have e3 : IntKind.i64.max = 9223372036854775807 := by decide
    rw [e1, e2, e3]; omega
  simp only [if_neg e, bsOf_cat]
@[go_sem ↓ 20000] theorem w_cat1 (l : List UInt8) (c : UInt8) [h : LenOK l] : Op.stringOp .add (bsOf l) ⟨#[c]⟩ = pure (.string (bsOf (l ++ [c]))) := op_cat l [c] h.le (by simp)
@[go_sem ↓ 20000] theorem w_cat (l m : List UInt8) [h : LenOK l] [h' : LenOK m] : Op.stringOp .add (bsOf l) (bsOf m) = pure (.string (bsOf (l ++ m))) := op_cat l m h.le h'.le
end
section
open Go.ChangeShapes Go.WideShapes Go.ChangeAt Go.RowKit
abbrev rowS (v : Value) (ls : List (List UInt8)) : Row := ⟨v, 9, 1, ls.length, ls.map fun l => .string (bsOf l)⟩
theorem infoStr3 : (Tryd.prog.info? 9).map (fun i => (i.zero, i.size, i.bytes)) = some (some (.string ⟨#[]⟩), 1, 16) := by kernel_rfl
theorem elemStr : Elem Tryd.prog 35 9 1 16 (.string ⟨#[]⟩) := ⟨Tryd.underlying35, infoStr3, rfl, by decide⟩
theorem one_str (x : ByteArray) : ∀ u ∈ [Value.string x], u.oneCell' = true := by intro u hu; simp at hu; subst hu; rfl
theorem Held.nilS {W0 w : World} {L : List Row} (H : Held W0 w L) : Held W0 w (rowS (.slice none 0 0) [] :: L) := ⟨H.bel, (fun r hr => by
  rcases List.mem_cons.1 hr with rfl | hr
  · exact World.ownsRow_nil _ _ _ _
  · exact H.own r hr), List.Pairwise.cons (fun r hr g hg => by simp [Value.ownBlock] at hg) H.apart⟩
theorem Held.snocS {W0 w : World} {L : List Row} {v : Value} {ls : List (List UInt8)} {l : List UInt8} (H : Held W0 w (⟨v, 9, 1, ls.length + 1, (ls.map fun l => Value.string (bsOf l)) ++ [.string (bsOf l)]⟩ :: L)) : Held W0 w (rowS v (ls ++ [l]) :: L) := by
  have e : ((ls ++ [l]).map fun l => Value.string (bsOf l)) = (ls.map fun l => Value.string (bsOf l)) ++ [.string (bsOf l)] := by simp
  rw [rowS, e, List.length_append]; exact H
/-- cells of a row of texts -/
theorem Held.texts {W0 w : World} {L : List Row} {v : Value} {ls : List (List UInt8)} (H : Held W0 w (rowS v ls :: L)) (h0 : 0 < ls.length) :
    ∃ g c, v = .slice (some ⟨g, 0, none⟩) ls.length c ∧ ls.length ≤ c ∧ g < w.heap.size ∧ ∀ (j : Nat) x, (ls.map bsOf)[j]? = some x → w.cell? ⟨g, 0 + j, none⟩ = some (.string x) := by
  have ho := H.own _ List.mem_cons_self
  rcases ho.2 with ⟨_, h2⟩ | ⟨g, cap, cur, hv, hB, hg, hnc, hcm, hcs, htk⟩
  · exact absurd h2 (by simp only; omega)
  · simp only at hv hnc
    subst hv
    refine ⟨g, cap, rfl, hnc, (Array.getElem?_eq_some_iff.1 hg).1, fun j x hx => ?_⟩
    have hj : j < ls.length := by
      have := (List.getElem?_eq_some_iff.1 hx).1
      simpa using this
    rw [Nat.zero_add, ho.cellAt j (by simp only; omega)]
    simp only [List.getElem?_map, Option.map_eq_some_iff] at hx ⊢
    obtain ⟨a, h1, h2⟩ := hx
    exact ⟨a, h1, by rw [h2]⟩
theorem join_snoc (xs : List (List UInt8)) (x sep : List UInt8) (h : xs ≠ []) : Lib.join (xs ++ [x]) sep = Lib.join xs sep ++ sep ++ x := by
  cases xs with
  | nil => exact absurd rfl h
  | cons a r =>
    rw [List.cons_append, Lib.join_cons, Lib.join_cons]
    simp [Lib.joinTail]
end
section
open Go.ChangeShapes Go.WideShapes Go.ChangeAt Go.RowKit
def btw (n lo hi : Int) : Bool := decide (lo ≤ n) && decide (n ≤ hi)
theorem btw_iff {n lo hi : Int} : btw n lo hi = true ↔ lo ≤ n ∧ n ≤ hi := by simp [btw]
theorem btw_not {n lo hi : Int} : btw n lo hi = false ↔ ¬ (lo ≤ n ∧ n ≤ hi) := by rw [← btw_iff]; simp
theorem between_any (n lo hi : Int) (w : World) : Calls Tryd.prog 31 #[.int .i64 n, .int .i64 lo, .int .i64 hi] w fun e w' => e = .returned (.bool (btw n lo hi)) ∧ ∃ x, w' = ext w x := by
  by_cases h1 : lo ≤ n <;> by_cases h2 : n ≤ hi
  all_goals
    go_enter Tryd.func31, Tryd.ntmps31
    go_wp2
    go_ret
    exact ⟨by simp [h1, h2, btw], ext_refl _⟩
theorem between_b (n lo hi : Int) (b : Bool) (h : btw n lo hi = b) (w : World) : Calls Tryd.prog 31 #[.int .i64 n, .int .i64 lo, .int .i64 hi] w fun e w' => e = .returned (.bool b) ∧ ∃ x, w' = ext w x := h ▸ between_any n lo hi w
theorem l1In_any (n lo hi : Int) (w : World) : Calls Tryd.prog 30 #[.int .i64 n, .int .i64 lo, .int .i64 hi] w fun e w' => e = .returned (.bool (btw n lo hi)) ∧ ∃ x, w' = ext w x := by
  by_cases h1 : lo ≤ n <;> by_cases h2 : n ≤ hi
  all_goals
    go_enter Tryd.func30, Tryd.ntmps30
    go_wp2
    go_ret
    exact ⟨by simp [h1, h2, btw], ext_refl _⟩
theorem l1In_b (n lo hi : Int) (b : Bool) (h : btw n lo hi = b) (w : World) : Calls Tryd.prog 30 #[.int .i64 n, .int .i64 lo, .int .i64 hi] w fun e w' => e = .returned (.bool b) ∧ ∃ x, w' = ext w x := h ▸ l1In_any n lo hi w
end
section
open Go.ChangeShapes Go.WideShapes Go.ChangeAt Go.RowKit
def numB (x : Int) : Bool := btw x (-1000000000) 1000000000
def numsB (xs : List Int) : Bool := allTo (fun k => numB (nth xs k)) xs.length
theorem areNumbers_any (xs : List Int) (v : Value) (w : World) (h : IntsAt w v xs) :
    Calls Tryd.prog 32 #[v] w fun e w' => e = .returned (.bool (numsB xs)) ∧ ∃ x, w' = ext w x := by
  obtain ⟨a, b, o, cap, rfl, hc1, hc2, hc3, hcell⟩ := h.opn
  go_enter Tryd.func32, Tryd.ntmps32
  go_wp2_with fail
  go_loopw [4, 7] (fun x i wr => ∃ k : Nat, k ≤ xs.length ∧ i = .int .i64 k ∧ allTo (fun k => numB (nth xs k)) k = true ∧ ∃ x, wr = ext w x) (fun x i _ => xs.length - (intOf i).toNat)
  case atStart => exact ⟨0, Nat.zero_le _, rfl, rfl, ext_refl _⟩
  case round =>
    obtain ⟨k, hk, rfl, hall, x, rfl⟩ := hrel
    have hall' := Lib.hid hall
    clear hall
    by_cases hlt : k < xs.length
    · obtain ⟨hb, hi, hck⟩ := hcell k hlt
      clear hcell
      go_wp2_with (go_at_call 31; refine (between_any _ _ _ _).mono ?_; rintro e w' ⟨rfl, xe, rfl⟩)
      · go_ret
        exact ⟨ret_bool (allTo_false hlt (bool_not (by assumption))).symm, (by repeat (first | exact ext_refl _ | (with_reducible assumption) | refine ext_ext' ?_ _ | refine ext_alloc' ?_ _ | refine ext_drew' ?_))⟩
      · go_roundw
        case rel => exact ⟨k + 1, hlt, int_succ k, allTo_succ hall'.out (bool_not' (by assumption)), (by repeat (first | exact ext_refl _ | (with_reducible assumption) | refine ext_ext' ?_ _ | refine ext_alloc' ?_ _ | refine ext_drew' ?_))⟩
        case measure => simp [intOf]; omega
    · go_wp2_with fail
      go_ret
      obtain rfl : k = xs.length := by omega
      exact ⟨ret_bool hall'.out.symm, (by repeat (first | exact ext_refl _ | (with_reducible assumption) | refine ext_ext' ?_ _ | refine ext_alloc' ?_ _ | refine ext_drew' ?_))⟩
def coefB (c : List Int) : Bool := btw c.length 1 8 && numsB c
theorem isCoefficients_any (xs : List Int) (v : Value) (w : World) (h : IntsAt w v xs) :
    Calls Tryd.prog 22 #[v] w fun e w' => e = .returned (.bool (coefB xs)) ∧ ∃ x, w' = ext w x := by
  have h0 := h
  obtain ⟨a, b, o, cap, rfl, hc1, hc2, hc3, hcell⟩ := h.opn
  clear hcell
  have hx : coefB xs = (btw xs.length 1 8 && numsB xs) := rfl
  have hx' := Lib.hid hx
  clear hx
  cases hb : btw xs.length 1 8
  · go_enter Tryd.func22, Tryd.ntmps22
    go_wp2_with (first | (go_at_call 31; refine (between_b _ _ _ _ hb _).mono ?_; rintro e w' ⟨rfl, xe, rfl⟩))
    go_ret
    exact ⟨ret_bool (by rw [hx'.out, hb]; rfl), (by repeat (first | exact ext_refl _ | (with_reducible assumption) | refine ext_ext' ?_ _ | refine ext_alloc' ?_ _ | refine ext_drew' ?_))⟩
  · go_enter Tryd.func22, Tryd.ntmps22
    go_wp2_with (first | (go_at_call 31; refine (between_b _ _ _ _ hb _).mono ?_; rintro e w' ⟨rfl, xe, rfl⟩) | (go_at_call 32; refine (areNumbers_any xs _ _ (by first | (with_reducible assumption) | (with_reducible exact IntsAt.mono (by assumption) (bel_of_ext (by repeat (first | exact ext_refl _ | (with_reducible assumption) | refine ext_ext' ?_ _ | refine ext_alloc' ?_ _ | refine ext_drew' ?_)))))).mono ?_; rintro e w' ⟨rfl, xe, rfl⟩))
    go_ret
    exact ⟨ret_bool (by rw [hx'.out, hb]; rfl), (by repeat (first | exact ext_refl _ | (with_reducible assumption) | refine ext_ext' ?_ _ | refine ext_alloc' ?_ _ | refine ext_drew' ?_))⟩
def fineB (xs : List Int) : Bool := numsB xs && decide ((xs.length : Int) ≤ 40)
theorem l12Fine_any (xs : List Int) (v : Value) (w : World) (h : IntsAt w v xs) :
    Calls Tryd.prog 20 #[v] w fun e w' => e = .returned (.bool (fineB xs)) ∧ ∃ x, w' = ext w x := by
  obtain ⟨a, b, o, cap, rfl, hc1, hc2, hc3, hcell⟩ := h.opn
  go_enter Tryd.func20, Tryd.ntmps20
  go_wp2_with fail
  go_loopw [3] (fun i wr => ∃ k : Nat, k ≤ xs.length ∧ i = .int .i64 k ∧ allTo (fun k => numB (nth xs k)) k = true ∧ ∃ x, wr = ext w x) (fun i _ => xs.length - (intOf i).toNat)
  case atStart => exact ⟨0, Nat.zero_le _, rfl, rfl, ext_refl _⟩
  case round =>
    obtain ⟨k, hk, rfl, hall, x, rfl⟩ := hrel
    have hall' := Lib.hid hall
    clear hall
    by_cases hlt : k < xs.length
    · obtain ⟨hb, hi, hck⟩ := hcell k hlt
      clear hcell
      go_wp2_with (go_at_call 30; refine (l1In_any _ _ _ _).mono ?_; rintro e w' ⟨rfl, xe, rfl⟩)
      · go_ret
        refine ⟨ret_bool ?_, (by repeat (first | exact ext_refl _ | (with_reducible assumption) | refine ext_ext' ?_ _ | refine ext_alloc' ?_ _ | refine ext_drew' ?_))⟩
        have := allTo_false (p := fun k => numB (nth xs k)) hlt (bool_not (by assumption))
        simp [fineB, numsB, this]
      · go_roundw
        case rel => exact ⟨k + 1, hlt, int_succ k, allTo_succ hall'.out (bool_not' (by assumption)), (by repeat (first | exact ext_refl _ | (with_reducible assumption) | refine ext_ext' ?_ _ | refine ext_alloc' ?_ _ | refine ext_drew' ?_))⟩
        case measure => simp [intOf]; omega
    · go_wp2_with fail
      go_ret
      obtain rfl : k = xs.length := by omega
      refine ⟨ret_bool ?_, (by repeat (first | exact ext_refl _ | (with_reducible assumption) | refine ext_ext' ?_ _ | refine ext_alloc' ?_ _ | refine ext_drew' ?_))⟩
      show _ = (allTo (fun k => numB (nth xs k)) xs.length && _)
      rw [hall'.out]; rfl
end
section
open Go.ChangeShapes Go.WideShapes Go.ChangeAt Go.RowKit
def dotTo (l c : List Int) (m : Nat) : Nat → Int := iter (fun i n => wrap64 (n + wrap64 (nth c i * nth l (m - 1 - i)))) 0
theorem dotTo_succ (l c : List Int) (m k : Nat) : dotTo l c m (k + 1) = wrap64 (dotTo l c m k + wrap64 (nth c k * nth l (m - 1 - k))) := rfl
theorem dotTo_take (l c : List Int) (m : Nat) : ∀ k, dotTo (l.take m) c m k = dotTo l c m k ∨ m = 0 := by
  intro k
  by_cases hm : m = 0
  · exact .inr hm
  · left
    induction k with
    | zero => rfl
    | succ k ih => rw [dotTo_succ, dotTo_succ, ih, nth_take (by omega)]
def recB (l c : List Int) : Bool := allTo (fun j => dotTo l c (c.length + j) c.length == nth l (c.length + j)) (l.length - c.length)
def isRecB (l c : List Int) : Bool := btw c.length 1 8 && numsB c && decide ((l.length : Int) ≤ 40) && numsB l && recB l c
theorem coefB_ge {c : List Int} (h : coefB c = true) : 1 ≤ c.length := by
  simp [coefB, btw] at h
  omega
end
section
open Go.ChangeShapes Go.WideShapes Go.ChangeAt Go.RowKit
def nxt (c out : List Int) : Int := dotTo out c out.length c.length
def extTo (l c : List Int) : Nat → List Int := iter (fun _ out => out ++ [nxt c out]) l
theorem extTo_succ (l c : List Int) (k : Nat) : extTo l c (k + 1) = extTo l c k ++ [nxt c (extTo l c k)] := rfl
theorem extTo_len (l c : List Int) (k : Nat) : (extTo l c k).length = l.length + k := by
  induction k with
  | zero => rfl
  | succ k ih => rw [extTo_succ, List.length_append, ih]; rfl
def extOK (l c : List Int) (k : Nat) : Bool := numB (nxt c (extTo l c k))
def preB (l c : List Int) (n : Int) : Bool := coefB c && decide (l.length ≤ 40) && numsB l && decide (c.length ≤ l.length) && btw n 0 20 && decide ((l.length : Int) + n ≤ 40)
def extV (l c : List Int) (n : Int) : Option (List Int) := if preB l c n && allTo (extOK l c) n.toNat then some (extTo l c n.toNat) else none
theorem extV_pre {l c : List Int} {n : Int} (h : preB l c n = false) : extV l c n = none := by simp [extV, h]
theorem extV_no {l c : List Int} {n : Int} {k : Nat} (hk : k < n.toNat) (h : extOK l c k = false) : extV l c n = none := by simp [extV, allTo_false hk h]
theorem extV_yes {l c : List Int} {n : Int} (h : preB l c n = true) (h2 : allTo (extOK l c) n.toNat = true) : extV l c n = some (extTo l c n.toNat) := by simp [extV, h, h2]
theorem numsB_snoc (xs : List Int) (x : Int) (h : numsB xs = true) : numsB (xs ++ [x]) = numB x := by
  have e : ∀ k, k < xs.length → nth (xs ++ [x]) k = nth xs k := fun k hk => by simp [nth, List.getD, List.getElem?_append_left hk]
  have e2 : nth (xs ++ [x]) xs.length = x := by simp [nth]
  have h' := allTo_true.1 h
  cases hx : numB x with
  | true =>
    unfold numsB
    rw [allTo_true]
    intro k hk
    by_cases hk2 : k < xs.length
    · rw [e k hk2]; exact h' k hk2
    · have : k = xs.length := by simp at hk; omega
      rw [this, e2, hx]
  | false => exact allTo_false (k := xs.length) (by simp) (by rw [e2, hx])
/-- the pair that both return -/
def ExtPost (w : World) (r : Option (List Int)) (e : Ending) (w' : World) : Prop :=
  ∃ v', e = .returned (.tuple #[v', .bool r.isSome]) ∧ (∃ x, w' = ext w x) ∧ OwnI w' w.heap.size v' (r.getD [])
theorem ExtPost.fail {w w' : World} {r : Option (List Int)} (h : r = none) (hx : ∃ x, w' = ext w x) : ExtPost w r (.returned (.tuple #[.slice none 0 0, .bool false])) w' := by
  subst h; exact ⟨_, rfl, hx, World.ownsRow_nil _ _ _ _⟩
theorem Held.whole {W0 w : World} {L : List Row} {v : Value} {xs : List Int} (H : Held W0 w (⟨v, 3, 1, 0 + xs.length, [] ++ xs.map iv⟩ :: L)) : Held W0 w (rowI v xs :: L) := by
  rw [Nat.zero_add, List.nil_append] at H; exact H
theorem preB_mk {l c : List Int} {n : Int} (h1 : coefB c = true) (h2 : l.length ≤ 40) (h3 : numsB l = true) (h4 : c.length ≤ l.length) (h5 : btw n 0 20 = true) (h6 : (l.length : Int) + n ≤ 40) : preB l c n = true := by
  simp [preB, h1, h2, h3, h4, h5, h6]
theorem ExtPost.got {w w' : World} {r : Option (List Int)} {v : Value} {xs : List Int} (h : r = Option.some xs) (H : Held w w' [rowI v xs]) : ExtPost w r (.returned (.tuple #[v, .bool true])) w' := by
  subst h; exact ⟨_, rfl, ext_of H.bel, H.own _ List.mem_cons_self⟩
theorem ExtPost.no {w w' : World} {r : Option (List Int)} {L : List Row} (h : r = Option.none) (H : Held w w' L) : ExtPost w r (.returned (.tuple #[.slice none 0 0, .bool false])) w' := ExtPost.fail h (ext_of H.bel)
theorem extV_all {l c : List Int} {m k : Nat} (h : preB l c m = true) (hk : k = m) (h2 : allTo (extOK l c) k = true) : extV l c m = Option.some (extTo l c k) := by
  subst hk
  have e : (k : Int).toNat = k := by simp
  have := extV_yes h (by rw [e]; exact h2)
  rw [e] at this; exact this
theorem extV_cut {l c : List Int} {m k : Nat} (hk : k < m) (h2 : extOK l c k = false) : extV l c m = Option.none := extV_no (by simp; omega) h2
theorem ExtPost.failE {w w' : World} {r : Option (List Int)} {v : Value} {L : List Row} (h : r = Option.none) (H : Held w w' (⟨v, 3, 1, 0, []⟩ :: L)) : ExtPost w r (.returned (.tuple #[v, .bool false])) w' := by
  subst h; exact ⟨_, rfl, ext_of H.bel, H.own _ List.mem_cons_self⟩
theorem coefB_mk {c : List Int} (h1 : fineB c = true) (h2 : c.length ≠ 0) (h3 : c.length ≤ 8) : coefB c = true := by
  simp only [fineB, Bool.and_eq_true] at h1
  simp only [coefB, h1.1, Bool.and_true]
  exact btw_iff.2 ⟨by omega, by omega⟩
theorem fineB_coef {c : List Int} (h : coefB c = true) : fineB c = true ∧ c.length ≠ 0 ∧ c.length ≤ 8 := by
  simp only [coefB, Bool.and_eq_true, btw_iff] at h
  exact ⟨by simp [fineB, h.2]; omega, by omega, by omega⟩
theorem extV_len (l c : List Int) (n : Int) : ((extV l c n).getD []).length ≤ 40 := by
  cases h : extV l c n with
  | none => simp
  | some xs =>
    simp only [Option.getD_some]
    unfold extV at h
    split at h
    · rename_i hh
      simp only [Bool.and_eq_true] at hh
      have hp := hh.1
      simp only [preB, Bool.and_eq_true, decide_eq_true_eq, btw_iff] at hp
      cases h
      rw [extTo_len]
      omega
    · cases h
end
section
open Go.ChangeShapes Go.WideShapes Go.ChangeAt Go.RowKit
open Go.Shelf
def laid_laysM171_ren : Go.Shelf.Ren := ⟨fun | 171 => 40 | 243 => 47 | 246 => 55 | 283 => 58 | 284 => 59 | 285 => 60 | 286 => 61 | 129 => 63 | 317 => 62 | 318 => 64 | 319 => 65 | 320 => 66 | 337 => 67 | 338 => 68 | n => n, fun | 3 => 3 | 9 => 9 | 2 => 2 | 4 => 4 | 171 => 76 | 0 => 0 | 53 => 77 | 37 => 46 | 5 => 5 | 173 => 80 | 212 => 83 | 51 => 73 | 20 => 20 | 213 => 84 | 46 => 64 | 232 => 87 | 233 => 88 | n => n, fun | 17 => 3 | 18 => 4 | 19 => 5 | n => n⟩
theorem laid_laysM171 : Go.Proofs.LaysM.n171 Tryd.prog laid_laysM171_ren := {
  mixed := by kernel_rfl
  f129 := Tryd.func63.trans (congrArg some (by kernel_rfl))
  f171 := Tryd.func40.trans (congrArg some (by kernel_rfl))
  f243 := Tryd.func47.trans (congrArg some (by kernel_rfl))
  f246 := Tryd.func55.trans (congrArg some (by kernel_rfl))
  f283 := Tryd.func58.trans (congrArg some (by kernel_rfl))
  f284 := Tryd.func59.trans (congrArg some (by kernel_rfl))
  f285 := Tryd.func60.trans (congrArg some (by kernel_rfl))
  f286 := Tryd.func61.trans (congrArg some (by kernel_rfl))
  f317 := Tryd.func62.trans (congrArg some (by kernel_rfl))
  f318 := Tryd.func64.trans (congrArg some (by kernel_rfl))
  f319 := Tryd.func65.trans (congrArg some (by kernel_rfl))
  f320 := Tryd.func66.trans (congrArg some (by kernel_rfl))
  f337 := Tryd.func67.trans (congrArg some (by kernel_rfl))
  f338 := Tryd.func68.trans (congrArg some (by kernel_rfl))
  t0 := Tryd.underlying0
  a0 := Tryd.isAgg0
  z0 := Tryd.sizeOf0
  v0 := Tryd.zeroValue0
  t2 := Tryd.underlying2
  a2 := Tryd.isAgg2
  z2 := Tryd.sizeOf2
  v2 := Tryd.zeroValue2
  t3 := Tryd.underlying3
  a3 := Tryd.isAgg3
  z3 := Tryd.sizeOf3
  v3 := Tryd.zeroValue3
  t4 := Tryd.underlying4
  a4 := Tryd.isAgg4
  z4 := Tryd.sizeOf4
  v4 := Tryd.zeroValue4
  t5 := Tryd.underlying5
  a5 := Tryd.isAgg5
  z5 := Tryd.sizeOf5
  v5 := Tryd.zeroValue5
  t9 := Tryd.underlying9
  a9 := Tryd.isAgg9
  z9 := Tryd.sizeOf9
  v9 := Tryd.zeroValue9
  t20 := Tryd.underlying20
  a20 := Tryd.isAgg20
  z20 := Tryd.sizeOf20
  v20 := Tryd.zeroValue20
  t37 := Tryd.underlying46
  a37 := Tryd.isAgg46
  z37 := Tryd.sizeOf46
  v37 := Tryd.zeroValue46
  t46 := Tryd.underlying64
  a46 := Tryd.isAgg64
  z46 := Tryd.sizeOf64
  v46 := Tryd.zeroValue64
  t51 := Tryd.underlying73
  a51 := Tryd.isAgg73
  z51 := Tryd.sizeOf73
  v51 := Tryd.zeroValue73
  t53 := Tryd.underlying77
  a53 := Tryd.isAgg77
  z53 := Tryd.sizeOf77
  v53 := Tryd.zeroValue77
  t171 := Tryd.underlying76
  a171 := Tryd.isAgg76
  z171 := Tryd.sizeOf76
  v171 := Tryd.zeroValue76
  t173 := Tryd.underlying80
  a173 := Tryd.isAgg80
  z173 := Tryd.sizeOf80
  v173 := Tryd.zeroValue80
  t212 := Tryd.underlying83
  a212 := Tryd.isAgg83
  z212 := Tryd.sizeOf83
  v212 := Tryd.zeroValue83
  t213 := Tryd.underlying84
  a213 := Tryd.isAgg84
  z213 := Tryd.sizeOf84
  t232 := Tryd.underlying87
  a232 := Tryd.isAgg87
  z232 := Tryd.sizeOf87
  v232 := Tryd.zeroValue87
  t233 := Tryd.underlying88
  a233 := Tryd.isAgg88
  z233 := Tryd.sizeOf88
  v233 := Tryd.zeroValue88
  g17 := by kernel_rfl
  g18 := by kernel_rfl
  g19 := by kernel_rfl
  i0 := by kernel_rfl
  i2 := by kernel_rfl
  i3 := by kernel_rfl
  i4 := by kernel_rfl
  i5 := by kernel_rfl
  i9 := by kernel_rfl
  i20 := by kernel_rfl
  i37 := by kernel_rfl
  i46 := by kernel_rfl
  i51 := by kernel_rfl
  i53 := by kernel_rfl
  i171 := by kernel_rfl
  i173 := by kernel_rfl
  i212 := by kernel_rfl
  i232 := by kernel_rfl
  i233 := by kernel_rfl
  m17 := by kernel_rfl
  m18 := by kernel_rfl
  m19 := by kernel_rfl }
open Go.RowKit Go.Sort Go.Lib in
theorem laid_strconv_Itoa (n : Int) (h0 : -9223372036854775808 ≤ n) (h1 : n ≤ 9223372036854775807) (w : World) (htab : Lib.TabIs Tryd.prog w "internal/strconv.uint64pow10" .u64 Lib.pow10Tab) :
    Calls Tryd.prog 40 #[.int .i64 n] w fun e w' => e = .returned (.string ⟨(Lib.itoa n).toArray⟩) ∧ ∃ k os, w' = grow (w.drewN k) os := Any.strconv_Itoa laid_laysM171 n h0 h1 w htab
end
section
open Go.ChangeShapes Go.WideShapes Go.ChangeAt Go.RowKit
abbrev TabW (w : World) : Prop := Lib.TabIs Tryd.prog w "internal/strconv.uint64pow10" .u64 Lib.pow10Tab
theorem TabW.mono {w w' : World} (h : TabW w) (hb : Below w.heap.size w w') : TabW w' := by
  have hg : Tryd.prog.globalNamed "internal/strconv.uint64pow10" = some 3 := by kernel_rfl
  unfold TabW Lib.TabIs World.var? at h ⊢
  rw [hg] at h ⊢
  simp only [Option.bind_some] at h ⊢
  by_cases hlt : 3 < w.heap.size
  · rw [hb.block _ hlt]; exact h
  · rw [Array.getElem?_eq_none (by omega)] at h
    simp at h
theorem dig_step (a : Nat) (h : 0 < a) : Lib.decDigits a = (if a / 10 = 0 then [] else Lib.decDigits (a / 10)) ++ [UInt8.ofNat (48 + a % 10)] := by
  by_cases h1 : a < 10
  · rw [Lib.decDigits, dif_pos h1, if_pos (by omega), show a % 10 = a by omega]; rfl
  · rw [Lib.decDigits, dif_neg h1, if_neg (by omega)]
theorem dig_len : ∀ u, (Lib.decDigits u).length ≤ u + 1 := by
  intro u
  induction u using Nat.strongRecOn with
  | _ u ih =>
    by_cases h : u < 10
    · rw [Lib.decDigits, dif_pos h]; simp
    · rw [Lib.decDigits, dif_neg h]
      have := ih (u / 10) (by omega)
      simp; omega
theorem dig_pos (u : Nat) : Lib.decDigits u ≠ [] := by
  by_cases h : u < 10
  · rw [Lib.decDigits, dif_pos h]; simp
  · rw [Lib.decDigits, dif_neg h]; simp
theorem itoa_ne (n : Int) : Lib.itoa n ≠ [] := by
  unfold Lib.itoa
  split
  · simp
  · exact dig_pos _
theorem itoa_len {n : Int} (h : -1000000000 ≤ n ∧ n ≤ 1000000000) : (Lib.itoa n).length ≤ 1000000002 := by
  unfold Lib.itoa
  split
  · have := dig_len n.natAbs; simp; omega
  · have := dig_len n.toNat; omega
theorem u8_toNat (q : Nat) (h : q ≤ 9) : ((UInt8.ofNat (48 + q)).toNat : Int) = 48 + (q : Int) := by
  simp only [UInt8.toNat_ofNat']
  omega
theorem itoa_any (n : Int) (h : (Lit.int .i64 n).wf = true) (w : World) (hT : TabW w) : Calls Tryd.prog 40 #[.int .i64 n] w fun e w' => e = .returned (.string (bsOf (Lib.itoa n))) ∧ ∃ x, w' = ext w x := by
  have hb : -9223372036854775808 ≤ n ∧ n ≤ 9223372036854775807 := by simpa [Lit.wf, IntKind.min, IntKind.max, IntKind.signed, IntKind.bits] using h
  refine (laid_strconv_Itoa n hb.1 hb.2 w hT).mono ?_
  rintro e w' ⟨he, k, os, rfl⟩
  exact ⟨he, ⟨os, w.drawn + k⟩, rfl⟩
theorem fmtInt_any (n : Int) (h : (Lit.int .i64 n).wf = true) (w : World) (hT : TabW w) : Calls Tryd.prog 33 #[.int .i64 n] w fun e w' => e = .returned (.string (bsOf (Lib.itoa n))) ∧ ∃ x, w' = ext w x := by
  go_enter Tryd.func33, Tryd.ntmps33
  go_wp2_with (first | (go_at_call 40; refine (itoa_any n h _ hT).mono ?_; rintro e w' ⟨rfl, xe, rfl⟩))
  go_ret
  exact ⟨rfl, (by repeat (first | exact ext_refl _ | (with_reducible assumption) | refine ext_ext' ?_ _ | refine ext_alloc' ?_ _ | refine ext_drew' ?_))⟩
theorem conv_dig (q : Nat) (hq : q ≤ 9) (w : World) : (convert 46 9 (.slice (some ⟨w.heap.size, 0, none⟩) 1 1)).run Tryd.prog (w.alloc (.cells #[.int .u8 (48 + (q : Int))] 5)) = .ok (.string (bsOf [UInt8.ofNat (48 + q)])) (w.alloc (.cells #[.int .u8 (48 + (q : Int))] 5)) := by
  refine run_convert_bytes_back _ _ _ 5 ⟨w.heap.size, 0, none⟩ 1 [UInt8.ofNat (48 + q)] Tryd.underlying46 Tryd.underlying5 Tryd.underlying9 fun j hj => ?_
  obtain rfl : j = 0 := by simpa using hj
  rw [Go.WideShapes.add_plain, World.cell?_alloc_at _ _ _ _ rfl]
  simp [u8_toNat q hq]
  omega
set_option maxHeartbeats 4000000 in
theorem specFI_any (n : Int) (h : -1000000000 ≤ n ∧ n ≤ 1000000000) (w : World) : Calls Tryd.prog 21 #[.int .i64 n] w fun e w' => e = .returned (.string (bsOf (Lib.itoa n))) ∧ ∃ x, w' = ext w x := by
  by_cases h0 : n = 0
  · have he : bsOf (Lib.itoa n) = ⟨#[48]⟩ := by
      have : Lib.itoa n = [48] := by
        rw [h0]
        show (if (0 : Int) < 0 then _ else Lib.decDigits (0 : Int).toNat) = _
        rw [if_neg (by omega), show (0 : Int).toNat = 0 from rfl, Lib.decDigits_one (by omega)]; rfl
      rw [this]; rfl
    have HE := Lib.hid he
    have hz : (n == (0 : Int)) = true := beq_iff_eq.2 h0
    clear he h h0
    go_enter Tryd.func21, Tryd.ntmps21
    go_wp2_with fail
    go_ret
    exact ⟨by rw [HE.out]; rfl, (by repeat (first | exact ext_refl _ | (with_reducible assumption) | refine ext_ext' ?_ _ | refine ext_alloc' ?_ _ | refine ext_drew' ?_))⟩
  · have hz : (n == (0 : Int)) = false := beq_eq_false_iff_ne.2 h0
    obtain ⟨hn1, hn2⟩ := h
    obtain ⟨T, hT⟩ : ∃ T, n.natAbs = T := ⟨_, rfl⟩
    have hTb : T ≤ 1000000000 := by omega
    have hTl := dig_len T
    have HTT := Lib.hid hT
    have HN0 := Lib.hid h0
    clear hT h0
    go_enter Tryd.func21, Tryd.ntmps21
    go_wp2_with fail
    go_loopw [0, 3] (fun u o wr => ∃ (z : Int) (out : List UInt8), u = .int .i64 z ∧ o = .string (bsOf out) ∧ -1000000000 ≤ z ∧ z ≤ 1000000000 ∧ Hid (Lib.decDigits T = (if z.natAbs = 0 then [] else Lib.decDigits z.natAbs) ++ out) ∧ ∃ x, wr = ext w x) (fun u _ _ => (intOf u).natAbs)
    case atStart => exact ⟨n, [], rfl, rfl, hn1, hn2, Lib.hid (by rw [HTT.out, if_neg (by have := HN0.out; have := HTT.out; omega), List.append_nil]), (by repeat (first | exact ext_refl _ | (with_reducible assumption) | refine ext_ext' ?_ _ | refine ext_alloc' ?_ _ | refine ext_drew' ?_))⟩
    case round =>
      obtain ⟨z, out, rfl, rfl, hz1, hz2, HD, xr, rfl⟩ := hrel
      have hol : out.length ≤ 1000000001 := by
        have := congrArg List.length HD.out
        rw [List.length_append] at this
        omega
      haveI : LenOK out := ⟨by omega⟩
      by_cases hz0 : z = 0
      · have hzb : (z != (0 : Int)) = false := by rw [hz0]; rfl
        have HO := Lib.hid (show Lib.decDigits T = out by have := HD.out; rwa [if_pos (by omega), List.nil_append] at this)
        clear hz0
        by_cases hneg : n < 0
        · have HF := Lib.hid (show Lib.itoa n = 45 :: out by rw [Lib.itoa, if_pos hneg, HTT.out, HO.out])
          have hcat : Op.stringOp .add ⟨#[45]⟩ (bsOf out) = pure (.string (bsOf (45 :: out))) := op_cat [45] out (by simp) (by omega)
          have hnb : decide (n < 0) = true := decide_eq_true hneg
          go_wp2_with fail
          go_ret
          exact ⟨by rw [HF.out]; rfl, (by repeat (first | exact ext_refl _ | (with_reducible assumption) | refine ext_ext' ?_ _ | refine ext_alloc' ?_ _ | refine ext_drew' ?_))⟩
        · have HF := Lib.hid (show Lib.itoa n = out by rw [Lib.itoa, if_neg hneg, show n.toNat = n.natAbs by omega, HTT.out, HO.out])
          have hnb : decide (n < 0) = false := decide_eq_false hneg
          go_wp2_with fail
          go_ret
          exact ⟨by rw [HF.out]; rfl, (by repeat (first | exact ext_refl _ | (with_reducible assumption) | refine ext_ext' ?_ _ | refine ext_alloc' ?_ _ | refine ext_drew' ?_))⟩
      · have hzb : (z != (0 : Int)) = true := bne_iff_ne.2 hz0
        obtain ⟨a, ha⟩ : ∃ a, z.natAbs = a := ⟨_, rfl⟩
        obtain ⟨q, hq⟩ : ∃ q, a % 10 = q := ⟨_, rfl⟩
        have hq9 : q ≤ 9 := by omega
        have HST := Lib.hid (dig_step a (by omega))
        have hd1 := HD.out
        rw [ha, if_neg (by omega), HST.out, hq, List.append_assoc] at hd1
        have hu8 : IntKind.u8.wrap (48 + (q : Int)) = 48 + (q : Int) := by simp [IntKind.wrap, IntKind.signed, IntKind.bits]; omega
        have hcv := conv_dig q hq9 (ext w xr)
        obtain ⟨b, hb⟩ : ∃ b, UInt8.ofNat (48 + q) = b := ⟨_, rfl⟩
        rw [hb] at hcv hd1
        have HD1 := Lib.hid hd1
        haveI : LenOK [b] := ⟨by simp⟩
        have hcat2 : Op.stringOp .add (bsOf [b]) (bsOf out) = pure (.string (bsOf ([b] ++ out))) := op_cat [b] out (by simp) (by omega)
        have hqq : (0 : Int) ≤ (q : Int) := by omega
        obtain ⟨z2, hz2e⟩ : ∃ z2, Int.tdiv z 10 = z2 := ⟨_, rfl⟩
        have hz2a : z2.natAbs = a / 10 := by rw [← hz2e, ← ha, Int.natAbs_tdiv]; rfl
        have hzb1 : -1000000000 ≤ z2 := by omega
        have hzb2 : z2 ≤ 1000000000 := by omega
        have HZ2 := Lib.hid hz2a
        have HA0 := Lib.hid (show 0 < a by omega)
        have HAZ := Lib.hid ha
        by_cases hzn : z < 0 ∧ q ≠ 0
        · obtain ⟨hzn1, hq0⟩ := hzn
          have hmod : Int.tmod z 10 = -(q : Int) := by
            rw [show z = -(a : Int) by omega, Int.neg_tmod, ← hq]; rfl
          have hd0 : decide (0 < q) = true := decide_eq_true (by omega)
          clear hd1 hq ha hb hz2a hzn1 hq0 hz0
          go_wp2_with fail
          have HZ3 := HZ2.out
          exact ⟨⟨z2, [b] ++ out, rfl, rfl, by have := HAZ.out; omega, by have := HAZ.out; omega, Lib.hid (by rw [HD1.out, HZ3]), (by repeat (first | exact ext_refl _ | (with_reducible assumption) | refine ext_ext' ?_ _ | refine ext_alloc' ?_ _ | refine ext_drew' ?_))⟩, by simp only [intOf]; have := HAZ.out; have := HA0.out; omega⟩
        · have hmod : Int.tmod z 10 = (q : Int) := by
            by_cases h1 : z < 0
            · rw [show z = -(a : Int) by omega, Int.neg_tmod, show Int.tmod (a : Int) 10 = ((a % 10 : Nat) : Int) from rfl, hq]; omega
            · rw [show z = (a : Int) by omega, ← hq]; rfl
          have hd0 : decide ((q : Int) < 0) = false := decide_eq_false (by omega)
          clear hd1 hq ha hb hz2a hzn hz0
          go_wp2_with fail
          have HZ3 := HZ2.out
          exact ⟨⟨z2, [b] ++ out, rfl, rfl, by have := HAZ.out; omega, by have := HAZ.out; omega, Lib.hid (by rw [HD1.out, HZ3]), (by repeat (first | exact ext_refl _ | (with_reducible assumption) | refine ext_ext' ?_ _ | refine ext_alloc' ?_ _ | refine ext_drew' ?_))⟩, by simp only [intOf]; have := HAZ.out; have := HA0.out; omega⟩
end
section
open Go.ChangeShapes Go.WideShapes Go.ChangeAt Go.RowKit
open Go.Shelf
def laid_lays156_ren : Go.Shelf.Ren := ⟨fun | 156 => 29 | 165 => 37 | 166 => 38 | 169 => 39 | 240 => 45 | 241 => 46 | 276 => 53 | 277 => 54 | n => n, fun | 31 => 35 | 9 => 9 | 3 => 3 | 4 => 4 | 0 => 0 | 20 => 20 | 72 => 51 | 76 => 55 | 70 => 49 | 37 => 46 | 75 => 54 | 127 => 62 | 164 => 65 | 5 => 5 | 80 => 57 | n => n, fun | n => n⟩
theorem laid_lays156 : Go.Proofs.Lays.n156 Tryd.prog laid_lays156_ren := {
  mixed := by kernel_rfl
  f156 := Tryd.func29.trans (congrArg some (by kernel_rfl))
  f165 := Tryd.func37.trans (congrArg some (by kernel_rfl))
  f166 := Tryd.func38.trans (congrArg some (by kernel_rfl))
  f169 := Tryd.func39.trans (congrArg some (by kernel_rfl))
  f240 := Tryd.func45.trans (congrArg some (by kernel_rfl))
  f241 := Tryd.func46.trans (congrArg some (by kernel_rfl))
  f276 := Tryd.func53.trans (congrArg some (by kernel_rfl))
  f277 := Tryd.func54.trans (congrArg some (by kernel_rfl))
  t0 := Tryd.underlying0
  a0 := Tryd.isAgg0
  z0 := Tryd.sizeOf0
  v0 := Tryd.zeroValue0
  t3 := Tryd.underlying3
  a3 := Tryd.isAgg3
  z3 := Tryd.sizeOf3
  v3 := Tryd.zeroValue3
  t4 := Tryd.underlying4
  a4 := Tryd.isAgg4
  z4 := Tryd.sizeOf4
  v4 := Tryd.zeroValue4
  t9 := Tryd.underlying9
  a9 := Tryd.isAgg9
  z9 := Tryd.sizeOf9
  v9 := Tryd.zeroValue9
  t20 := Tryd.underlying20
  a20 := Tryd.isAgg20
  z20 := Tryd.sizeOf20
  v20 := Tryd.zeroValue20
  t31 := Tryd.underlying35
  a31 := Tryd.isAgg35
  z31 := Tryd.sizeOf35
  v31 := Tryd.zeroValue35
  t37 := Tryd.underlying46
  a37 := Tryd.isAgg46
  z37 := Tryd.sizeOf46
  v37 := Tryd.zeroValue46
  t70 := Tryd.underlying49
  a70 := Tryd.isAgg49
  z70 := Tryd.sizeOf49
  v70 := Tryd.zeroValue49
  t72 := Tryd.underlying51
  a72 := Tryd.isAgg51
  z72 := Tryd.sizeOf51
  v72 := Tryd.zeroValue51
  t75 := Tryd.underlying54
  a75 := Tryd.isAgg54
  z75 := Tryd.sizeOf54
  v75 := Tryd.zeroValue54
  t76 := Tryd.underlying55
  a76 := Tryd.isAgg55
  z76 := Tryd.sizeOf55
  v76 := Tryd.zeroValue55
  t127 := Tryd.underlying62
  a127 := Tryd.isAgg62
  z127 := Tryd.sizeOf62
  v127 := Tryd.zeroValue62
  t164 := Tryd.underlying65
  a164 := Tryd.isAgg65
  z164 := Tryd.sizeOf65
  v164 := Tryd.zeroValue65 }
theorem laid_Builder_Extra_156 : Builder.Extra Tryd.prog laid_lays156_ren := {
  sizeBuilder := by kernel_rfl
  liesBuilder := by kernel_rfl
  t5 := Tryd.underlying5
  a5 := Tryd.isAgg5
  z5 := Tryd.sizeOf5
  v5 := Tryd.zeroValue5
  infoByte := by kernel_rfl
  cellsByte := by kernel_rfl
  sizeByte := by kernel_rfl
  neB5 := by decide }
open Go.RowKit in
theorem laid_strings_Join_none (a : Option Addr) (c : Nat) (sep : ByteArray) (w : World) :
    Calls Tryd.prog 29 #[.slice a 0 c, .string sep] w fun e w' => e = .returned (.string ⟨#[]⟩) ∧ w' = w := Any.strings_Join_none laid_lays156 laid_Builder_Extra_156 a c sep w
open Go.RowKit in
theorem laid_strings_Join (bk o c : Nat) (xs : List ByteArray) (sep : ByteArray) (w : World) (hcells : ∀ (j : Nat) x, xs[j]? = some x → w.cell? ⟨bk, o + j, none⟩ = some (.string x)) (hbk : bk < w.heap.size) (hN : xs.length ≤ 140737488355328) (hcap : xs.length ≤ c) (hlen : (Lib.join (xs.map (·.data.toList)) sep.data.toList).length ≤ 140737488355328) :
    Calls Tryd.prog 29 #[.slice (some ⟨bk, o, none⟩) xs.length c, .string sep] w fun e w' => e = .returned (.string ⟨(Lib.join (xs.map (·.data.toList)) sep.data.toList).toArray⟩) ∧ Below w.heap.size w w' := Any.strings_Join laid_lays156 laid_Builder_Extra_156 bk o c xs sep w hcells hbk hN hcap hlen
end
section
open Go.ChangeShapes Go.WideShapes Go.ChangeAt Go.RowKit
def lsT (c : List Int) (k : Nat) : List (List UInt8) := (c.take k).map Lib.itoa
theorem lsT_len {c : List Int} {k : Nat} (h : k ≤ c.length) : (lsT c k).length = k := by simp [lsT]; omega
theorem lsT_succ {c : List Int} {k : Nat} (h : k < c.length) : lsT c (k + 1) = lsT c k ++ [Lib.itoa (nth c k)] := by
  rw [lsT, List.take_succ_eq_append_getElem h, List.map_append, nth_get h]; rfl
def frT (c : List Int) (k : Nat) : List UInt8 := Lib.join (lsT c k) [44]
theorem frT_zero (c : List Int) : frT c 0 = [] := rfl
theorem frT_one {c : List Int} (h : 0 < c.length) : frT c 1 = Lib.itoa (nth c 0) := by
  rw [frT, lsT_succ h]
  show Lib.join [Lib.itoa (nth c 0)] [44] = _
  rw [Lib.join_cons]; simp [Lib.joinTail]
theorem frT_succ {c : List Int} {k : Nat} (h : k < c.length) (h0 : 0 < k) : frT c (k + 1) = (frT c k ++ [44]) ++ Lib.itoa (nth c k) := by
  rw [frT, lsT_succ h, join_snoc _ _ _ (by intro e; have := lsT_len (c := c) (k := k) (by omega); rw [e] at this; simp at this; omega)]; rfl
theorem frT_all (c : List Int) : frT c c.length = Lib.join (c.map Lib.itoa) [44] := by simp [frT, lsT]
theorem numsB_bd {c : List Int} (h : numsB c = true) {k : Nat} (hk : k < c.length) : -1000000000 ≤ nth c k ∧ nth c k ≤ 1000000000 := btw_iff.1 (allTo_true.1 h k hk)
theorem frT_len {c : List Int} (h : numsB c = true) : ∀ k, k ≤ c.length → (frT c k).length ≤ k * 1000000003
  | 0, _ => by rw [frT_zero]; exact Nat.zero_le _
  | k + 1, hk => by
    have ih := frT_len h k (by omega)
    have hi := itoa_len (numsB_bd h (k := k) (by omega))
    by_cases h0 : k = 0
    · subst h0; rw [frT_one (by omega)]; omega
    · rw [frT_succ (by omega) (by omega), List.length_append, List.length_append]
      have e1 : [(44 : UInt8)].length = 1 := rfl
      omega
theorem frT_ne {c : List Int} : ∀ k, 0 < k → k ≤ c.length → frT c k ≠ []
  | k + 1, _, hk => by
    have := itoa_ne (nth c k)
    by_cases h0 : k = 0
    · subst h0; rw [frT_one (by omega)]; exact this
    · rw [frT_succ (by omega) (by omega)]; simp
def frV (c : List Int) : List UInt8 := if coefB c then frT c c.length else [110, 111, 110, 101]
theorem frV_yes {c : List Int} (h : coefB c = true) : frV c = frT c c.length := by simp [frV, h]
theorem frV_no {c : List Int} (h : coefB c = false) : frV c = [110, 111, 110, 101] := by simp [frV, h]
theorem coefB_nums {c : List Int} (h : coefB c = true) : numsB c = true := by
  simp only [coefB, Bool.and_eq_true] at h; exact h.2
theorem wf64_of {n : Int} (h : -1000000000 ≤ n ∧ n ≤ 1000000000) : (Lit.int .i64 n).wf = true := by
  simp [Lit.wf, IntKind.min, IntKind.max, IntKind.signed, IntKind.bits]; omega
theorem joinC_any (g c : Nat) (ls : List (List UInt8)) (w : World) (hcells : ∀ (j : Nat) x, (ls.map bsOf)[j]? = some x → w.cell? ⟨g, 0 + j, none⟩ = some (.string x)) (hg : g < w.heap.size) (hl : ls.length ≤ 1000) (hc : ls.length ≤ c) (hs : (Lib.join ls [44]).length ≤ 140737488355328) :
    Calls Tryd.prog 29 #[.slice (some ⟨g, 0, none⟩) ls.length c, .string ⟨#[44]⟩] w fun e w' => e = .returned (.string (bsOf (Lib.join ls [44]))) ∧ ∃ x, w' = ext w x := by
  have em : (ls.map bsOf).map (fun x => x.data.toList) = ls := by simp [bsOf, Function.comp_def]
  have h := laid_strings_Join g 0 c (ls.map bsOf) ⟨#[44]⟩ w hcells hg (by simp; omega) (by simpa using hc) (by rw [em]; show (Lib.join ls [44]).length ≤ _; omega)
  rw [List.length_map, em] at h
  exact h.mono fun e w' ⟨he, hb⟩ => ⟨he, ext_of hb⟩
set_option maxHeartbeats 2000000 in
theorem numbersText_any (c : List Int) (v : Value) (w : World) (h : IntsAt w v c) (hT : TabW w) (hc : coefB c = true) :
    Calls Tryd.prog 23 #[v] w fun e w' => e = .returned (.string (bsOf (frT c c.length))) ∧ ∃ x, w' = ext w x := by
  have h0 := h
  obtain ⟨a, b, o, cap, rfl, hc1, hc2, hc3, hcell⟩ := h.opn
  obtain ⟨hl1, hl2⟩ := btw_iff.1 (show btw c.length 1 8 = true by simp only [coefB, Bool.and_eq_true] at hc; exact hc.1)
  have hnb := coefB_nums hc
  have HNB := Lib.hid hnb
  have HF := frT_len hnb c.length (Nat.le_refl _)
  have HC := Lib.hid hcell
  have H0 := Lib.hid (Held.start w).nilS
  have hlen8 : c.length ≤ 8 := by omega
  have hlen1 : 1 ≤ c.length := by omega
  have hl0 : ((c.length : Int) == (0 : Int)) = false := beq_eq_false_iff_ne.2 (by omega)
  clear hl1 hl2
  clear hcell hc hnb
  go_enter Tryd.func23, Tryd.ntmps23
  go_wp2_with fail
  go_loopw [3, 11] (fun u i wr => ∃ (r : Value) (k : Nat), r = u ∧ k ≤ c.length ∧ i = .int .i64 k ∧ Held w wr [rowS r (lsT c k)]) (fun _ i _ => c.length - (intOf i).toNat)
  case atStart => exact ⟨_, 0, rfl, Nat.zero_le _, rfl, H0.out⟩
  case round =>
    clear H0
    obtain ⟨r, k, rfl, hk, rfl, H⟩ := hrel
    have hll := lsT_len hk
    by_cases hlt : k < c.length
    · have hbd := numsB_bd HNB.out hlt
      have hwf := wf64_of hbd
      obtain ⟨kA, kB, kC⟩ := HC.out k hlt
      have kD : wr.cell? ⟨b, o + k, none⟩ = some (.int .i64 (nth c k)) := by rw [H.bel.cell (p := ⟨b, o + k, none⟩) kA.lt]; exact kC
      have kE : Old wr b := ⟨Nat.lt_of_lt_of_le kA.lt H.bel.size⟩
      clear kC kA HC
      have hT2 := hT.mono H.bel
      have H2 := Lib.hid H
      clear H
      go_wp2_with (first | (go_at_call 33; refine (fmtInt_any _ hwf _ hT2).mono ?_; rintro e w' ⟨rfl, xe, rfl⟩) | (at_builtin; go_loud (refine wpList_append_held (m := 1) rfl _ _ _ rfl elemStr (H2.out.to (by repeat (first | exact ext_refl _ | (with_reducible assumption) | refine ext_ext' ?_ _ | refine ext_alloc' ?_ _ | refine ext_drew' ?_))) rfl rfl (Sl_new1 _ _ _) (one_str _) (by rw [hll]; unfold maxLen; omega) (by rw [hll]; omega) ?_; intro v' w' H; have H := H.snocS)))
      go_roundw
      case rel =>
        exact ⟨v', k + 1, rfl, hlt, int_succ k, by rw [lsT_succ hlt]; exact H⟩
      case measure => simp [intOf]; omega
    · have hke : k = c.length := by omega
      rw [hke] at H hll
      clear hke
      obtain ⟨g, gc, rfl, hgc, hg, hcells⟩ := H.texts (by omega)
      have HCL := Lib.hid hcells
      have HX := Lib.hid (ext_of H.bel)
      have HL := Lib.hid hll
      clear hcells hll
      go_wp2_with (first | (go_at_call 29; go_loud (refine (joinC_any g gc (lsT c c.length) _ HCL.out hg (by rw [HL.out]; omega) hgc (by show (frT c c.length).length ≤ _; omega)).mono ?_; rintro e w' ⟨rfl, xe, rfl⟩)))
      go_ret
      obtain ⟨x0, rfl⟩ := HX.out
      exact ⟨rfl, (by repeat (first | exact ext_refl _ | (with_reducible assumption) | refine ext_ext' ?_ _ | refine ext_alloc' ?_ _ | refine ext_drew' ?_))⟩
set_option maxHeartbeats 2000000 in
theorem implFr_any (c : List Int) (v : Value) (w : World) (h : IntsAt w v c) (hT : TabW w) :
    Calls Tryd.prog 12 #[v] w fun e w' => e = .returned (.string (bsOf (frV c))) ∧ ∃ x, w' = ext w x := by
  cases hc : coefB c
  · have HF := Lib.hid (frV_no hc)
    go_enter Tryd.func12, Tryd.ntmps12
    go_wp2_with (first | (go_at_call 22; refine (isCoefficients_any _ _ _ h).mono ?_; rintro e w' ⟨rfl, xe, rfl⟩))
    go_ret
    exact ⟨by rw [HF.out]; rfl, (by repeat (first | exact ext_refl _ | (with_reducible assumption) | refine ext_ext' ?_ _ | refine ext_alloc' ?_ _ | refine ext_drew' ?_))⟩
  · have HF := Lib.hid (frV_yes hc)
    have HC := Lib.hid hc
    go_enter Tryd.func12, Tryd.ntmps12
    go_wp2_with (first | (go_at_call 22; refine (isCoefficients_any _ _ _ h).mono ?_; rintro e w' ⟨rfl, xe, rfl⟩) | (go_at_call 23; refine (numbersText_any _ _ _ (by exact IntsAt.mono h (bel_of_ext (by repeat (first | exact ext_refl _ | (with_reducible assumption) | refine ext_ext' ?_ _ | refine ext_alloc' ?_ _ | refine ext_drew' ?_)))) (by exact TabW.mono hT (bel_of_ext (by repeat (first | exact ext_refl _ | (with_reducible assumption) | refine ext_ext' ?_ _ | refine ext_alloc' ?_ _ | refine ext_drew' ?_)))) HC.out).mono ?_; rintro e w' ⟨rfl, xe, rfl⟩))
    go_ret
    exact ⟨by rw [HF.out]; rfl, (by repeat (first | exact ext_refl _ | (with_reducible assumption) | refine ext_ext' ?_ _ | refine ext_alloc' ?_ _ | refine ext_drew' ?_))⟩
set_option maxHeartbeats 4000000 in
theorem specFr_any (c : List Int) (v : Value) (w : World) (h : IntsAt w v c) :
    Calls Tryd.prog 10 #[v] w fun e w' => e = .returned (.string (bsOf (frV c))) ∧ ∃ x, w' = ext w x := by
  have h0 := h
  obtain ⟨a, b, o, cap, rfl, hc1, hc2, hc3, hcell⟩ := h.opn
  cases hc : coefB c
  · have HF := Lib.hid (frV_no hc)
    have HN := Lib.hid hc
    clear hcell
    go_enter Tryd.func10, Tryd.ntmps10
    go_wp2_with fail
    go_loopw [3, 4] (fun u i wr => u = .string ⟨#[]⟩ ∧ i = .int .i64 0 ∧ ∃ x, wr = ext w x) (fun _ _ _ => 0)
    case atStart => exact ⟨rfl, rfl, (by repeat (first | exact ext_refl _ | (with_reducible assumption) | refine ext_ext' ?_ _ | refine ext_alloc' ?_ _ | refine ext_drew' ?_))⟩
    case round =>
      obtain ⟨rfl, rfl, xr, rfl⟩ := hrel
      have h1 := h0.ext xr
      by_cases hl0 : c.length = 0
      · go_wp2_with fail
        go_ret
        exact ⟨by rw [HF.out]; rfl, (by repeat (first | exact ext_refl _ | (with_reducible assumption) | refine ext_ext' ?_ _ | refine ext_alloc' ?_ _ | refine ext_drew' ?_))⟩
      · by_cases hl8 : (c.length : Int) ≤ 8
        · have hf : fineB c = false := by
            cases hf : fineB c
            · rfl
            · exact absurd (coefB_mk hf hl0 (by omega)) (by rw [HN.out]; simp)
          go_wp2_with (first | (go_at_call 20; refine (l12Fine_any _ _ _ h1).mono ?_; rintro e w' ⟨rfl, xe, rfl⟩))
          go_ret
          exact ⟨by rw [HF.out]; rfl, (by repeat (first | exact ext_refl _ | (with_reducible assumption) | refine ext_ext' ?_ _ | refine ext_alloc' ?_ _ | refine ext_drew' ?_))⟩
        · go_wp2_with fail
          go_ret
          exact ⟨by rw [HF.out]; rfl, (by repeat (first | exact ext_refl _ | (with_reducible assumption) | refine ext_ext' ?_ _ | refine ext_alloc' ?_ _ | refine ext_drew' ?_))⟩
  · have HF := Lib.hid (frV_yes hc)
    obtain ⟨hf1, hf2, hf3⟩ := fineB_coef hc
    have HNB := Lib.hid (coefB_nums hc)
    have HL := Lib.hid (frT_len HNB.out)
    have HC := Lib.hid hcell
    clear hcell hc
    go_enter Tryd.func10, Tryd.ntmps10
    go_wp2_with fail
    go_loopw [3, 4] (fun u i wr => ∃ k : Nat, k ≤ c.length ∧ u = .string (bsOf (frT c k)) ∧ i = .int .i64 k ∧ ∃ x, wr = ext w x) (fun _ i _ => c.length - (intOf i).toNat)
    case atStart => exact ⟨0, Nat.zero_le _, rfl, rfl, (by repeat (first | exact ext_refl _ | (with_reducible assumption) | refine ext_ext' ?_ _ | refine ext_alloc' ?_ _ | refine ext_drew' ?_))⟩
    case round =>
      obtain ⟨k, hk, rfl, rfl, xr, rfl⟩ := hrel
      have h1 := h0.ext xr
      have hll := HL.out k hk
      by_cases hlt : k < c.length
      · obtain ⟨kA, kB, kC⟩ := HC.out k hlt
        haveI := kA
        have hbd := numsB_bd HNB.out hlt
        haveI : LenOK (Lib.itoa (nth c k)) := ⟨by have := itoa_len hbd; omega⟩
        haveI : LenOK (frT c k) := ⟨by omega⟩
        haveI : LenOK (frT c k ++ [44]) := ⟨by rw [List.length_append]; have e1 : [(44 : UInt8)].length = 1 := rfl; omega⟩
        have hfi : ∀ w, Calls Tryd.prog 21 #[.int .i64 (nth c k)] w fun e w' => e = .returned (.string (bsOf (Lib.itoa (nth c k)))) ∧ ∃ x, w' = ext w x := fun w => specFI_any _ hbd w
        by_cases hk0 : k = 0
        · have HK0 := Lib.hid hk0
          have hz : (0 < k) = False := by rw [hk0]; simp
          have hcat2 : Op.stringOp .add (bsOf (frT c k)) (bsOf (Lib.itoa (nth c k))) = pure (.string (bsOf (frT c k ++ Lib.itoa (nth c k)))) := op_cat _ _ (by omega) (by have := itoa_len hbd; omega)
          have hds : decide (0 < k) = false := by rw [hk0]; rfl
          clear hk0
          go_wp2_with (first | (go_at_call 20; refine (l12Fine_any _ _ _ h1).mono ?_; rintro e w' ⟨rfl, xe, rfl⟩) | (go_at_call 21; refine (hfi _).mono ?_; rintro e w' ⟨rfl, xe, rfl⟩))
          exact ⟨⟨k + 1, hlt, by
            have e := HK0.out
            subst e
            rw [frT_one hlt, frT_zero]; rfl, int_succ k, (by repeat (first | exact ext_refl _ | (with_reducible assumption) | refine ext_ext' ?_ _ | refine ext_alloc' ?_ _ | refine ext_drew' ?_))⟩, by simp [intOf]; omega⟩
        · have hkp : 0 < k := by omega
          have hcat : Op.stringOp .add (bsOf (frT c k)) ⟨#[44]⟩ = pure (.string (bsOf (frT c k ++ [44]))) := op_cat (frT c k) [44] (by omega) (by simp)
          go_wp2_with (first | (go_at_call 20; refine (l12Fine_any _ _ _ h1).mono ?_; rintro e w' ⟨rfl, xe, rfl⟩) | (go_at_call 21; refine (hfi _).mono ?_; rintro e w' ⟨rfl, xe, rfl⟩))
          exact ⟨⟨k + 1, hlt, by rw [frT_succ hlt hkp, List.append_assoc]; rfl, int_succ k, (by repeat (first | exact ext_refl _ | (with_reducible assumption) | refine ext_ext' ?_ _ | refine ext_alloc' ?_ _ | refine ext_drew' ?_))⟩, by simp [intOf]; omega⟩
      · have hke : k = c.length := by omega
        rw [hke]
        have hne := frT_ne (c := c) c.length (by omega) (Nat.le_refl _)
        have hemp : (bsOf (frT c c.length)).toList.isEmpty = false := by
          rw [show (bsOf (frT c c.length)).toList = frT c c.length from by rw [ByteArray.toList_eq]; rfl]
          simpa using hne
        clear hne hll hke
        go_wp2_with (first | (go_at_call 20; refine (l12Fine_any _ _ _ h1).mono ?_; rintro e w' ⟨rfl, xe, rfl⟩))
        go_ret
        exact ⟨by rw [HF.out]; rfl, (by repeat (first | exact ext_refl _ | (with_reducible assumption) | refine ext_ext' ?_ _ | refine ext_alloc' ?_ _ | refine ext_drew' ?_))⟩
end
section
open Go.ChangeShapes Go.WideShapes Go.ChangeAt Go.RowKit
section
variable {H : Type} {enc : TypeId × Value → H} {W : World} {base : Nat}
theorem IntsAt_trod {fuel : Nat} {v : Value} {x : DataW H × List MemPlace} (h : DataW.trod enc Tryd.prog W 0 (fun _ => true) true fuel 22 [v] = some x) : ∃ zs, IntsAt W v zs ∧ ∀ n ∈ zs, (Lit.int .i64 n).wf = true := by
  rcases open_ints Tryd.underlying22 Tryd.underlying3 (by kernel_rfl) h with ⟨hcs, _⟩ | ⟨ad, l, c, zs, hcs, _, hl, hm, hz, _, hcell, hwz⟩
  · simp only [List.cons.injEq, and_true] at hcs
    subst hcs
    exact ⟨[], ⟨none, 0, 0, 0, rfl, by simp, by simp [maxLen], by simp, fun h => by simp at h, fun i hi => by simp at hi⟩, fun n hn => by cases hn⟩
  · simp only [List.cons.injEq, and_true] at hcs
    subst hcs
    simp only [if_true] at hz
    have htl : (zs.take l).length = l := by simp; omega
    refine ⟨zs.take l, ?_, fun n hn => hwz n (List.mem_of_mem_take hn)⟩
    by_cases hp : 0 < zs.length
    · obtain ⟨b, o, rfl, hc⟩ := ints_at hcell hp
      refine ⟨_, b, o, c, by rw [htl], by omega, hm, by simp, fun hn => ⟨rfl, World.block_lt_of_cell? W ⟨b, o + 0, none⟩ (hc 0 hp)⟩, fun i hi => ?_⟩
      have hi' : i < l := by simp at hi; omega
      rw [hc i (by omega), List.map_take, List.getElem?_take, if_pos hi']
      simp [iv, List.getD, show i < zs.length by omega]
    · have : l = 0 := by omega
      subst this
      refine ⟨some ad, 0, 0, c, by simp, by simp, hm, by simp, fun hn => by simp at hn, fun i hi => by simp at hi⟩
set_option maxRecDepth 10000 in
theorem open_IntsAt {v : Value} {d : DataW H} {p : List MemPlace} (h : DataW.Trod enc Tryd.prog W 0 (fun _ => true) true 22 v d p) (hv : Value.okWide Tryd.prog W .any base 22 v) :
    ∃ zs, IntsAt W v zs ∧ ∀ n ∈ zs, (Lit.int .i64 n).wf = true := by
  obtain ⟨a, len, cap, rfl⟩ := okWide_slice Tryd.underlying22 hv
  obtain ⟨fuel, hf⟩ := h
  exact IntsAt_trod (by simpa [Value.cells] using hf)
end
end
end Go.Proofs.YtmehmpammjcnkaaDoor
