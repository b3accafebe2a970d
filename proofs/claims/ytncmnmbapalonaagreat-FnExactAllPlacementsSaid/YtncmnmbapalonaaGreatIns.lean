/- Ordered lists, each element once. No statement about the program. -/
import Derived.Test.YtncmnmbapalonaaGreatRows
import Derived.WalkKit
import Derived.ProofKit
import Derived.OpenShut
import Derived.BigQuiet
import Derived.Lib.Hide
import Derived.Deep.QuietTactic
import Derived.Outline
import Derived.Test.YtncmnmbapalonaaGreatSl
namespace Go.Proofs.YtncmnmbapalonaaGreat
open Go.ChangeShapes Go.WideShapes Go.ChangeAt Go.RowKit
set_option linter.unusedVariables false
structure Strict {α : Type} (lt : α → α → Bool) : Prop where
  irr : ∀ a, lt a a = false
  trans : ∀ a b c, lt a b = true → lt b c = true → lt a c = true
  tot : ∀ a b, lt a b = false → lt b a = false → a = b
theorem Strict.asym {α : Type} {lt : α → α → Bool} (S : Strict lt) {a b : α} (h : lt a b = true) : lt b a = false := by
  cases h2 : lt b a
  · rfl
  · have := S.trans _ _ _ h h2
    rw [S.irr] at this; cases this
def Asc {α : Type} (lt : α → α → Bool) (l : List α) : Prop := l.Pairwise fun a b => lt a b = true
def putL {α : Type} (lt : α → α → Bool) (x : α) : List α → List α
  | [] => [x]
  | y :: l => if lt x y then x :: y :: l else if lt y x then y :: putL lt x l else y :: l
theorem mem_putL {α : Type} {lt : α → α → Bool} (S : Strict lt) {x z : α} {l : List α} : z ∈ putL lt x l ↔ z = x ∨ z ∈ l := by
  induction l with
  | nil => simp [putL]
  | cons y l ih =>
    simp only [putL]
    split
    · simp
    · split
      · simp only [List.mem_cons, ih]
        constructor
        · rintro (h | h | h) <;> simp [h]
        · rintro (h | h | h) <;> simp [h]
      · rename_i h1 h2
        have e : x = y := S.tot _ _ (by simpa using h1) (by simpa using h2)
        subst e
        simp
theorem asc_putL {α : Type} {lt : α → α → Bool} (S : Strict lt) {x : α} {l : List α} (h : Asc lt l) : Asc lt (putL lt x l) := by
  induction l with
  | nil => simp [putL, Asc]
  | cons y l ih =>
    have h' := List.pairwise_cons.1 h
    simp only [putL]
    split
    · rename_i h1
      refine List.pairwise_cons.2 ⟨fun z hz => ?_, h⟩
      rcases List.mem_cons.1 hz with rfl | hz
      · exact h1
      · exact S.trans _ _ _ h1 (h'.1 z hz)
    · split
      · rename_i h1 h2
        refine List.pairwise_cons.2 ⟨fun z hz => ?_, ih h'.2⟩
        rcases (mem_putL S).1 hz with rfl | hz
        · exact h2
        · exact h'.1 z hz
      · exact h
theorem asc_unique {α : Type} {lt : α → α → Bool} (S : Strict lt) : ∀ {l l' : List α}, Asc lt l → Asc lt l' → (∀ z, z ∈ l ↔ z ∈ l') → l = l'
  | [], [], _, _, _ => rfl
  | [], b :: l', _, _, h => absurd ((h b).2 List.mem_cons_self) (by simp)
  | a :: l, [], _, _, h => absurd ((h a).1 List.mem_cons_self) (by simp)
  | a :: l, b :: l', h1, h2, h => by
    have k1 := List.pairwise_cons.1 h1
    have k2 := List.pairwise_cons.1 h2
    have e : a = b := by
      rcases List.mem_cons.1 ((h a).1 List.mem_cons_self) with e | ha
      · exact e
      · rcases List.mem_cons.1 ((h b).2 List.mem_cons_self) with e | hb
        · exact e.symm
        · have q1 := k2.1 a ha
          have q2 := k1.1 b hb
          rw [S.asym q1] at q2; cases q2
    subst e
    have e2 : l = l' := asc_unique S k1.2 k2.2 fun z => by
      constructor
      · intro hz
        rcases List.mem_cons.1 ((h z).1 (List.mem_cons_of_mem _ hz)) with e | hz'
        · subst e; have := k1.1 z hz; rw [S.irr] at this; cases this
        · exact hz'
      · intro hz
        rcases List.mem_cons.1 ((h z).2 (List.mem_cons_of_mem _ hz)) with e | hz'
        · subst e; have := k2.1 z hz; rw [S.irr] at this; cases this
        · exact hz'
    rw [e2]
def sortL {α : Type} (lt : α → α → Bool) (xs : List α) : List α := xs.foldl (fun l x => putL lt x l) []
theorem foldl_putL {α : Type} {lt : α → α → Bool} (S : Strict lt) (xs : List α) : ∀ l, Asc lt l → Asc lt (xs.foldl (fun l x => putL lt x l) l) ∧ ∀ z, z ∈ xs.foldl (fun l x => putL lt x l) l ↔ z ∈ xs ∨ z ∈ l := by
  induction xs with
  | nil => intro l h; exact ⟨h, fun z => by simp⟩
  | cons x xs ih =>
    intro l h
    obtain ⟨h1, h2⟩ := ih (putL lt x l) (asc_putL S h)
    refine ⟨h1, fun z => ?_⟩
    rw [List.foldl_cons, h2, mem_putL S, List.mem_cons]
    constructor
    · rintro (h | h | h) <;> simp [h]
    · rintro ((h | h) | h) <;> simp [h]
theorem asc_sortL {α : Type} {lt : α → α → Bool} (S : Strict lt) (xs : List α) : Asc lt (sortL lt xs) := (foldl_putL S xs [] List.Pairwise.nil).1
theorem mem_sortL {α : Type} {lt : α → α → Bool} (S : Strict lt) {xs : List α} {z : α} : z ∈ sortL lt xs ↔ z ∈ xs := by
  have := (foldl_putL S xs [] List.Pairwise.nil).2 z
  simpa [sortL] using this
theorem sortL_snoc {α : Type} (lt : α → α → Bool) (xs : List α) (x : α) : sortL lt (xs ++ [x]) = putL lt x (sortL lt xs) := by simp [sortL]
theorem sortL_eq {α : Type} {lt : α → α → Bool} (S : Strict lt) {xs l : List α} (h : Asc lt l) (hm : ∀ z, z ∈ l ↔ z ∈ xs) : l = sortL lt xs :=
  asc_unique S h (asc_sortL S xs) fun z => by rw [mem_sortL S, hm]
theorem sortL_asc {α : Type} {lt : α → α → Bool} (S : Strict lt) {xs : List α} (h : Asc lt xs) : sortL lt xs = xs := (sortL_eq S h fun _ => Iff.rfl).symm
theorem putL_len {α : Type} (lt : α → α → Bool) (x : α) (l : List α) : (putL lt x l).length ≤ l.length + 1 := by
  induction l with
  | nil => simp [putL]
  | cons y l ih =>
    simp only [putL]
    split
    · simp
    · split
      · simp; exact ih
      · simp
theorem putL_pos {α : Type} (lt : α → α → Bool) (x : α) (l : List α) : 0 < (putL lt x l).length := by
  cases l with
  | nil => simp [putL]
  | cons y l =>
    simp only [putL]
    split
    · simp
    · split <;> simp
theorem sortL_len {α : Type} (lt : α → α → Bool) (xs : List α) : (sortL lt xs).length ≤ xs.length := by
  suffices h : ∀ l, (xs.foldl (fun l x => putL lt x l) l).length ≤ xs.length + l.length by simpa [sortL] using h []
  induction xs with
  | nil => intro l; simp
  | cons x xs ih =>
    intro l
    have h1 := ih (putL lt x l)
    have h2 := putL_len lt x l
    simp only [List.foldl_cons, List.length_cons]
    omega
theorem putL_in {α : Type} {lt : α → α → Bool} (S : Strict lt) {x : α} {l : List α} (h : Asc lt l) (hx : x ∈ l) : putL lt x l = l :=
  asc_unique S (asc_putL S h) h fun z => by
    rw [mem_putL S]
    constructor
    · rintro (rfl | h)
      · exact hx
      · exact h
    · exact .inr
theorem putL_at {α : Type} {lt : α → α → Bool} (S : Strict lt) {x : α} {l : List α} (h : Asc lt l) (k : Nat) (hlo : ∀ z ∈ l.take k, lt z x = true) (hhi : ∀ z ∈ l.drop k, lt x z = true) : putL lt x l = l.take k ++ x :: l.drop k := by
  refine asc_unique S (asc_putL S h) ?_ fun z => ?_
  · have h' : Asc lt (l.take k ++ l.drop k) := by rw [List.take_append_drop]; exact h
    obtain ⟨h1, h2, h3⟩ := List.pairwise_append.1 h'
    refine List.pairwise_append.2 ⟨h1, List.pairwise_cons.2 ⟨hhi, h2⟩, fun a ha b hb => ?_⟩
    rcases List.mem_cons.1 hb with rfl | hb
    · exact hlo a ha
    · exact h3 a ha b hb
  · rw [mem_putL S]
    have : z ∈ l ↔ z ∈ l.take k ∨ z ∈ l.drop k := by rw [← List.mem_append, List.take_append_drop]
    rw [this, List.mem_append, List.mem_cons]
    constructor
    · rintro (h | h | h) <;> simp [h]
    · rintro (h | h | h) <;> simp [h]
theorem lo_of {α : Type} {lt : α → α → Bool} (S : Strict lt) (d : α) {x : α} {l : List α} (h : Asc lt l) {k : Nat} (hk : k ≤ l.length) (h1 : k = 0 ∨ lt (l.getD (k - 1) d) x = true) : ∀ z ∈ l.take k, lt z x = true := by
  intro z hz
  obtain ⟨i, hi, rfl⟩ := List.getElem_of_mem hz
  rw [List.getElem_take]
  simp at hi
  rcases h1 with h1 | h1
  · omega
  · have e1 : l.getD (k - 1) d = l[k - 1]'(by omega) := by simp [List.getD, show k - 1 < l.length by omega]
    rw [e1] at h1
    by_cases hik : i = k - 1
    · subst hik; exact h1
    · exact S.trans _ _ _ ((List.pairwise_iff_getElem.1 h) i (k - 1) (by omega) (by omega) (by omega)) h1
theorem hi_of {α : Type} {lt : α → α → Bool} (S : Strict lt) (d : α) {x : α} {l : List α} (h : Asc lt l) {k : Nat} (h1 : k = l.length ∨ lt x (l.getD k d) = true) : ∀ z ∈ l.drop k, lt x z = true := by
  intro z hz
  obtain ⟨i, hi, rfl⟩ := List.getElem_of_mem hz
  rw [List.getElem_drop]
  simp at hi
  rcases h1 with h1 | h1
  · omega
  · have e1 : l.getD k d = l[k]'(by omega) := by simp [List.getD, show k < l.length by omega]
    rw [e1] at h1
    by_cases hi0 : i = 0
    · subst hi0; exact h1
    · exact S.trans _ _ _ h1 ((List.pairwise_iff_getElem.1 h) k (k + i) (by omega) (by omega) (by omega))
/-! ### once out of a row that is in order -/
def ddTo {α : Type} [DecidableEq α] (d : α) (l : List α) : Nat → List α := iter (fun i acc => if i = 0 ∨ l.getD (i - 1) d ≠ l.getD i d then acc ++ [l.getD i d] else acc) []
theorem ddTo_t {α : Type} [DecidableEq α] {d : α} {l : List α} {k : Nat} (h : k = 0 ∨ l.getD (k - 1) d ≠ l.getD k d) : ddTo d l (k + 1) = ddTo d l k ++ [l.getD k d] := by
  show (if k = 0 ∨ l.getD (k - 1) d ≠ l.getD k d then ddTo d l k ++ [l.getD k d] else ddTo d l k) = _
  rw [if_pos h]
theorem ddTo_f {α : Type} [DecidableEq α] {d : α} {l : List α} {k : Nat} (h0 : k ≠ 0) (h : l.getD (k - 1) d = l.getD k d) : ddTo d l (k + 1) = ddTo d l k := by
  show (if k = 0 ∨ l.getD (k - 1) d ≠ l.getD k d then ddTo d l k ++ [l.getD k d] else ddTo d l k) = _
  rw [if_neg (by simp only [not_or, Decidable.not_not]; exact ⟨h0, h⟩)]
theorem ddTo_len {α : Type} [DecidableEq α] (d : α) (l : List α) (k : Nat) : (ddTo d l k).length ≤ k := by
  induction k with
  | zero => simp [ddTo, iter]
  | succ k ih =>
    by_cases h : k = 0 ∨ l.getD (k - 1) d ≠ l.getD k d
    · rw [ddTo_t h]; simp; exact ih
    · simp only [not_or, Decidable.not_not] at h
      rw [ddTo_f h.1 h.2]; omega
theorem ddTo_sound {α : Type} [DecidableEq α] {lt : α → α → Bool} (S : Strict lt) (d : α) (l : List α) (hs : l.Pairwise fun a b => lt b a = false) : ∀ k, k ≤ l.length → Asc lt (ddTo d l k) ∧ (∀ z, z ∈ ddTo d l k ↔ z ∈ l.take k) := by
  intro k
  induction k with
  | zero => intro _; exact ⟨List.Pairwise.nil, fun z => by simp [ddTo, iter]⟩
  | succ k ih =>
    intro hk
    obtain ⟨i1, i2⟩ := ih (by omega)
    have ek : l.getD k d = l[k] := by simp [List.getD, show k < l.length by omega]
    have et : l.take (k + 1) = l.take k ++ [l[k]] := List.take_succ_eq_append_getElem (by omega)
    have hle : ∀ z ∈ l.take k, lt l[k] z = false := fun z hz => by
      obtain ⟨i, hi, rfl⟩ := List.getElem_of_mem hz
      rw [List.getElem_take]
      simp at hi
      exact (List.pairwise_iff_getElem.1 hs) i k (by omega) (by omega) (by omega)
    by_cases h : k = 0 ∨ l.getD (k - 1) d ≠ l.getD k d
    · rw [ddTo_t h, et, ek]
      refine ⟨List.pairwise_append.2 ⟨i1, by simp, fun a ha b hb => ?_⟩, fun z => by rw [List.mem_append, List.mem_append, i2]⟩
      have hb' : b = l[k] := by simpa using hb
      subst hb'
      have ha' := (i2 a).1 ha
      cases h4 : lt a l[k]
      · exfalso
        have e := S.tot _ _ h4 (hle a ha')
        rcases h with h | h
        · subst h; simp at ha'
        · apply h
          have hk0 : 0 < k := by
            rcases Nat.eq_zero_or_pos k with e0 | e0
            · subst e0; simp at ha'
            · exact e0
          have e1 : l.getD (k - 1) d = l[k - 1] := by simp [List.getD, show k - 1 < l.length by omega]
          rw [e1, ek]
          obtain ⟨i, hi, hia⟩ := List.getElem_of_mem ha'
          rw [List.getElem_take] at hia
          simp at hi
          have q2 : lt l[k] l[k - 1] = false := hle _ (by rw [List.mem_iff_getElem]; exact ⟨k - 1, by simp; omega, by rw [List.getElem_take]⟩)
          apply S.tot _ _ ?_ q2
          by_cases hik : i = k - 1
          · subst hik; rw [hia]; exact h4
          · have q1 := (List.pairwise_iff_getElem.1 hs) i (k - 1) (by omega) (by omega) (by omega)
            rw [hia, e] at q1
            exact q1
      · rfl
    · simp only [not_or, Decidable.not_not] at h
      rw [ddTo_f h.1 h.2, et]
      refine ⟨i1, fun z => ?_⟩
      have e1 : l.getD (k - 1) d = l[k - 1]'(by omega) := by simp [List.getD, show k - 1 < l.length by omega]
      rw [List.mem_append, i2]
      constructor
      · exact .inl
      · rintro (hz | hz)
        · exact hz
        · have : z = l[k] := by simpa using hz
          rw [this, ← ek, ← h.2, e1, List.mem_iff_getElem]
          exact ⟨k - 1, by simp; omega, by rw [List.getElem_take]⟩
theorem dd_sort {α : Type} [DecidableEq α] {lt : α → α → Bool} (S : Strict lt) (d : α) {l xs : List α} (hs : l.Pairwise fun a b => lt b a = false) (hp : ∀ z, z ∈ l ↔ z ∈ xs) : ddTo d l l.length = sortL lt xs := by
  obtain ⟨h1, h2⟩ := ddTo_sound S d l hs l.length (Nat.le_refl _)
  exact sortL_eq S h1 fun z => by rw [h2, List.take_length, hp]
end Go.Proofs.YtncmnmbapalonaaGreat
