/- Slices that are read, by their cells; loops as iterations. No statement about the program. -/
import Derived.Test.YtncmnmbapalonaaGreatRows
import Derived.WalkKit
import Derived.ProofKit
import Derived.OpenShut
import Derived.BigQuiet
import Derived.Lib.Hide
import Derived.Deep.QuietTactic
import Derived.Outline
import Derived.Test.YtncmnmbapalonaaGreatBase
namespace Go.Proofs.YtncmnmbapalonaaGreat
open Go.ChangeShapes Go.WideShapes Go.ChangeAt Go.RowKit
set_option linter.unusedVariables false
/-- the k-th number of a list (0 behind its end); kept closed to simp -/
def nth (xs : List Int) (k : Nat) : Int := xs.getD k 0
def iter {α : Type} (f : Nat → α → α) (a : α) : Nat → α
  | 0 => a
  | n + 1 => f n (iter f a n)
def allTo (p : Nat → Bool) : Nat → Bool
  | 0 => true
  | n + 1 => allTo p n && p n
theorem allTo_false {p : Nat → Bool} {k n : Nat} (h : k < n) (hk : p k = false) : allTo p n = false := by
  induction n with
  | zero => omega
  | succ n ih =>
    simp only [allTo]
    by_cases e : k = n
    · subst e; simp [hk]
    · rw [ih (by omega)]; rfl
theorem allTo_true {p : Nat → Bool} {n : Nat} : allTo p n = true ↔ ∀ k, k < n → p k = true := by
  induction n with
  | zero => simp [allTo]
  | succ n ih =>
    simp only [allTo, Bool.and_eq_true, ih]
    constructor
    · rintro ⟨h1, h2⟩ k hk
      by_cases e : k = n
      · subst e; exact h2
      · exact h1 k (by omega)
    · intro h
      exact ⟨fun k hk => h k (by omega), h n (by omega)⟩
theorem allTo_succ {p : Nat → Bool} {k : Nat} (h : allTo p k = true) (hk : p k = true) : allTo p (k + 1) = true := by simp [allTo, h, hk]
/-- v is a slice of n elements of sz cells each, which hold cs -/
def Sl (w : World) (sz : Nat) (v : Value) (n : Nat) (cs : List Value) : Prop :=
  ∃ a b o cap, v = .slice a n cap ∧ n ≤ cap ∧ cap ≤ maxLen ∧ cs.length = n * sz ∧ (0 < n → a = some ⟨b, o, none⟩ ∧ b < w.heap.size) ∧ ∀ i, i < cs.length → w.cell? ⟨b, o + i, none⟩ = cs[i]?
theorem Sl.mono {w w' : World} {sz : Nat} {v : Value} {n : Nat} {cs : List Value} (h : Sl w sz v n cs) (hb : Below w.heap.size w w') : Sl w' sz v n cs := by
  obtain ⟨a, b, o, cap, rfl, h1, h2, h3, h4, h5⟩ := h
  refine ⟨a, b, o, cap, rfl, h1, h2, h3, fun hn => ⟨(h4 hn).1, Nat.lt_of_lt_of_le (h4 hn).2 hb.size⟩, fun i hi => ?_⟩
  have hn : 0 < n := by
    rcases Nat.eq_zero_or_pos n with e | e
    · subst e; simp at h3; simp [h3] at hi
    · exact e
  rw [← h5 i hi]
  exact hb.cell (p := ⟨b, o + i, none⟩) (h4 hn).2
theorem Sl.ext {w : World} {sz : Nat} {v : Value} {n : Nat} {cs : List Value} (h : Sl w sz v n cs) (x : Ext) : Sl (ext w x) sz v n cs := h.mono (Below_ext w x)
theorem Sl.alloc {w : World} {sz : Nat} {v : Value} {n : Nat} {cs : List Value} (h : Sl w sz v n cs) (o : Obj) : Sl (w.alloc o) sz v n cs :=
  h.mono ((Below.refl _ _).alloc (Nat.le_refl _) o)
theorem Sl_own {w : World} {base e sz : Nat} {v : Value} {n : Nat} {cs : List Value} (h : w.ownsRow base e sz v n cs) : Sl w sz v n cs := by
  obtain ⟨h1, h2⟩ := h
  rcases h2 with ⟨rfl, rfl⟩ | ⟨g, cap, cur, rfl, hb, hg, hnc, hcm, hcs, htake⟩
  · exact ⟨none, 0, 0, 0, rfl, Nat.le_refl _, by simp [maxLen], h1, fun h => absurd h (by omega), fun i hi => by simp at h1; simp [h1] at hi⟩
  · refine ⟨_, g, 0, cap, rfl, hnc, hcm, h1, fun _ => ⟨rfl, (Array.getElem?_eq_some_iff.1 hg).1⟩, fun i hi => ?_⟩
    rw [Nat.zero_add, cell_of_row w g i cur e (0, 0) hg, ← htake, List.getElem?_take, if_pos (by omega)]
    simp
theorem idx_run {t e sz : Nat} {z : Option Value} {P : Program} (ht : P.underlying t = some (.slice e)) (hi : (P.info? e).map (fun i => i.size) = some sz)
    (b o n cap k : Nat) (h : k < n) (w : World) :
    (Instr.indexAt t (.slice (some ⟨b, o, none⟩) n cap) (.int .i64 k)).run P w = .ok (.pointer (some ⟨b, o + k * sz, none⟩)) w := by
  obtain ⟨i, hi1, hi2⟩ := Option.map_eq_some_iff.1 hi
  subst hi2
  simp [Instr.indexAt, asIntOf, run_underlying ht, sizeOf, typeInfo, hi1, h, Addr.add]
theorem Sl.idx {w : World} {sz : Nat} {v : Value} {n : Nat} {cs : List Value} (h : Sl w sz v n cs) {t e : Nat} {P : Program} (ht : P.underlying t = some (.slice e)) (hi : (P.info? e).map (fun i => i.size) = some sz) :
    ∃ a b o cap, v = .slice a n cap ∧ n ≤ cap ∧ n ≤ 9223372036854775807 ∧ cap ≤ 9223372036854775807 ∧ ∀ k, k < n → Old w b ∧ (∀ w', (Instr.indexAt t (.slice a n cap) (.int .i64 k)).run P w' = .ok (.pointer (some ⟨b, o + k * sz, none⟩)) w') ∧
      ∀ j, j < sz → w.cell? ⟨b, o + k * sz + j, none⟩ = cs[k * sz + j]? := by
  obtain ⟨a, b, o, cap, rfl, h1, h2, h3, h4, h5⟩ := h
  unfold maxLen at h2
  refine ⟨a, b, o, cap, rfl, h1, by omega, by omega, fun k hk => ?_⟩
  obtain ⟨rfl, hb⟩ := h4 (by omega)
  refine ⟨⟨hb⟩, fun w' => idx_run (z := none) ht hi b o n cap k hk w', fun j hj => ?_⟩
  have : k * sz + j < n * sz := by
    have : (k + 1) * sz ≤ n * sz := Nat.mul_le_mul_right _ hk
    rw [Nat.add_mul] at this
    omega
  rw [Nat.add_assoc]
  exact h5 _ (by omega)
/-! ### numbers -/
def iv (n : Int) : Value := .int .i64 n
def IntsAt (w : World) (v : Value) (xs : List Int) : Prop := Sl w 1 v xs.length (xs.map iv)
theorem IntsAt.mono {w w' : World} {v : Value} {xs : List Int} (h : IntsAt w v xs) (hb : Below w.heap.size w w') : IntsAt w' v xs := Sl.mono h hb
theorem IntsAt.ext {w : World} {v : Value} {xs : List Int} (h : IntsAt w v xs) (x : Ext) : IntsAt (ext w x) v xs := Sl.ext h x
theorem IntsAt.alloc {w : World} {v : Value} {xs : List Int} (h : IntsAt w v xs) (o : Obj) : IntsAt (w.alloc o) v xs := Sl.alloc h o
theorem nth_get {xs : List Int} {k : Nat} (h : k < xs.length) : xs[k] = nth xs k := by simp [nth, h]
theorem getElem_of_nth {xs : List Int} {k : Nat} (h : k < xs.length) : (xs.map iv)[k]? = some (.int .i64 (nth xs k)) := by
  rw [← nth_get h]; simp [iv, h]
theorem Sl_of_cells {W : World} {sz : Nat} {ad : Addr} {len cap : Nat} {cs : List Value} (h1 : len ≤ cap) (h2 : cap ≤ maxLen) (h3 : cs.length = len * sz) (h0 : 0 < sz) (hc : ∀ i, i < cs.length → W.cell? (ad.add i) = cs[i]?) :
    Sl W sz (.slice (some ad) len cap) len cs := by
  by_cases hp : 0 < len
  · have hp' : 0 < cs.length := by rw [h3]; exact Nat.mul_pos hp h0
    obtain ⟨b, o, spot⟩ := ad
    have hs : spot = none := by
      have := hc 0 hp'
      rw [List.getElem?_eq_getElem hp'] at this
      simpa [Addr.add] using World.cell?_spot this
    subst hs
    refine ⟨_, b, o, cap, rfl, h1, h2, h3, fun _ => ⟨rfl, ?_⟩, fun i hi => ?_⟩
    · have := hc 0 hp'
      rw [List.getElem?_eq_getElem hp'] at this
      simp only [Addr.add, if_true] at this
      exact World.block_lt_of_cell? W ⟨b, o, none⟩ this
    · rw [← hc i hi, Go.WideShapes.add_plain]
  · obtain rfl : len = 0 := by omega
    exact ⟨_, 0, 0, cap, rfl, h1, h2, h3, fun h => absurd h hp, fun i hi => by simp at h3; simp [h3] at hi⟩
end Go.Proofs.YtncmnmbapalonaaGreat
