/- Shapes: the order of cells and of shapes, corners, motions, orientations. No statement about the program. -/
import Derived.Test.YtncmnmbapalonaaGreatRows
import Derived.WalkKit
import Derived.ProofKit
import Derived.OpenShut
import Derived.BigQuiet
import Derived.Lib.Hide
import Derived.Deep.QuietTactic
import Derived.Outline
import Derived.Test.YtncmnmbapalonaaGreatIns
import Derived.Test.YtncmnmbapalonaaGreatShape
namespace Go.Proofs.YtncmnmbapalonaaGreat
open Go.ChangeShapes Go.WideShapes Go.ChangeAt Go.RowKit
set_option linter.unusedVariables false
def ltI (a b : Int) : Bool := decide (a < b)
theorem strictI : Strict ltI := ⟨fun a => by simp [ltI], fun a b c => by simp [ltI]; omega, fun a b => by simp [ltI]; omega⟩
def ltC (a b : Int × Int) : Bool := bef a.1 a.2 b.1 b.2
theorem ltC_iff {a b : Int × Int} : ltC a b = true ↔ a.2 < b.2 ∨ a.2 = b.2 ∧ a.1 < b.1 := by simp [ltC, bef]
theorem ltC_not {a b : Int × Int} : ltC a b = false ↔ ¬ (a.2 < b.2 ∨ a.2 = b.2 ∧ a.1 < b.1) := by rw [← ltC_iff]; simp
theorem strictC : Strict ltC := ⟨fun a => by rw [ltC_not]; omega, fun a b c => by rw [ltC_iff, ltC_iff, ltC_iff]; omega, fun a b h1 h2 => by
  rw [ltC_not] at h1 h2
  exact Prod.ext (by omega) (by omega)⟩
def lexL : List (Int × Int) → List (Int × Int) → Bool
  | a :: l, b :: m => ltC a b || (!ltC b a && lexL l m)
  | _, _ => false
theorem lexL_irr : ∀ a : List (Int × Int), lexL a a = false
  | [] => rfl
  | a :: l => by simp [lexL, strictC.irr, lexL_irr l]
theorem lexL_trans : ∀ a b c : List (Int × Int), lexL a b = true → lexL b c = true → lexL a c = true
  | [], _, _, h, _ => by simp [lexL] at h
  | _ :: _, [], _, h, _ => by simp [lexL] at h
  | _ :: _, _ :: _, [], _, h => by simp [lexL] at h
  | a :: l, b :: m, c :: n, h1, h2 => by
    simp only [lexL, Bool.or_eq_true, Bool.and_eq_true, Bool.not_eq_true'] at h1 h2 ⊢
    rcases h1 with h1 | ⟨h1, k1⟩
    · rcases h2 with h2 | ⟨h2, k2⟩
      · exact .inl (strictC.trans _ _ _ h1 h2)
      · left
        cases h3 : ltC b c
        · rw [← strictC.tot _ _ h3 h2]; exact h1
        · exact strictC.trans _ _ _ h1 h3
    · rcases h2 with h2 | ⟨h2, k2⟩
      · left
        cases h3 : ltC a b
        · rw [strictC.tot _ _ h3 h1]; exact h2
        · exact strictC.trans _ _ _ h3 h2
      · cases h3 : ltC a b
        · have e := strictC.tot _ _ h3 h1
          subst e
          exact .inr ⟨h2, lexL_trans _ _ _ k1 k2⟩
        · left
          cases h4 : ltC b c
          · rw [← strictC.tot _ _ h4 h2]; exact h3
          · exact strictC.trans _ _ _ h3 h4
theorem lexL_tot : ∀ a b : List (Int × Int), a.length = b.length → lexL a b = false → lexL b a = false → a = b
  | [], [], _, _, _ => rfl
  | [], _ :: _, h, _, _ => by simp at h
  | _ :: _, [], h, _, _ => by simp at h
  | a :: l, b :: m, h, h1, h2 => by
    simp only [lexL, Bool.or_eq_false_iff, Bool.and_eq_false_iff, Bool.not_eq_false'] at h1 h2
    have e := strictC.tot _ _ h1.1 h2.1
    subst e
    have k1 : lexL l m = false := by
      rcases h1.2 with h | h
      · rw [strictC.irr] at h; cases h
      · exact h
    have k2 : lexL m l = false := by
      rcases h2.2 with h | h
      · rw [strictC.irr] at h; cases h
      · exact h
    rw [lexL_tot l m (by simpa using h) k1 k2]
def ltS (a b : List (Int × Int)) : Bool := decide (a.length < b.length) || (decide (a.length = b.length) && lexL a b)
theorem ltS_iff {a b : List (Int × Int)} : ltS a b = true ↔ a.length < b.length ∨ a.length = b.length ∧ lexL a b = true := by simp [ltS]
theorem ltS_not {a b : List (Int × Int)} : ltS a b = false ↔ ¬ (a.length < b.length) ∧ (a.length = b.length → lexL a b = false) := by
  have h := ltS_iff (a := a) (b := b)
  cases h2 : ltS a b
  · simp only [h2, Bool.false_eq_true, false_iff, not_or, not_and, Bool.not_eq_true] at h
    simp only [true_iff]; exact h
  · simp only [h2, true_iff] at h
    simp only [Bool.true_eq_false, false_iff, not_and, Classical.not_imp, Bool.not_eq_false]
    intro h3
    rcases h with h | h
    · exact absurd h h3
    · exact h
theorem strictS : Strict ltS := ⟨fun a => by rw [ltS_not]; exact ⟨by omega, fun _ => lexL_irr a⟩, fun a b c => by
  rw [ltS_iff, ltS_iff, ltS_iff]
  rintro (h | ⟨h, k⟩) (h2 | ⟨h2, k2⟩)
  · left; omega
  · left; omega
  · left; omega
  · right; exact ⟨by omega, lexL_trans _ _ _ k k2⟩, fun a b h1 h2 => by
  rw [ltS_not] at h1 h2
  have e : a.length = b.length := by omega
  exact lexL_tot _ _ e (h1.2 e) (h2.2 e.symm)⟩
/-- -1, 0 or 1 -/
def cmpS (a b : List (Int × Int)) : Int := if ltS a b then -1 else if ltS b a then 1 else 0
theorem cmpS_short {a b : List (Int × Int)} (h : a.length < b.length) : cmpS a b = -1 := by simp [cmpS, ltS, h]
theorem cmpS_long {a b : List (Int × Int)} (h : b.length < a.length) : cmpS a b = 1 := by
  have h1 : ltS a b = false := by rw [ltS_not]; omega
  have h2 : ltS b a = true := by rw [ltS_iff]; exact .inl h
  simp [cmpS, h1, h2]
theorem drop_cons (a : List (Int × Int)) (k : Nat) (h : k < a.length) : a.drop k = (cx a k, cy a k) :: a.drop (k + 1) := by
  have e : (cx a k, cy a k) = a[k] := by simp [cx, cy, List.getD, h]
  rw [e]; exact List.drop_eq_getElem_cons h
/-- the first k cells agree -/
def agree (a b : List (Int × Int)) (k : Nat) : Prop := lexL a b = lexL (a.drop k) (b.drop k) ∧ lexL b a = lexL (b.drop k) (a.drop k)
theorem agree_zero (a b : List (Int × Int)) : agree a b 0 := ⟨rfl, rfl⟩
theorem agree_succ {a b : List (Int × Int)} {k : Nat} (h : agree a b k) (ha : k < a.length) (hb : k < b.length) (h1 : bef (cx a k) (cy a k) (cx b k) (cy b k) = false) (h2 : bef (cx b k) (cy b k) (cx a k) (cy a k) = false) : agree a b (k + 1) := by
  have k1 : ltC (cx a k, cy a k) (cx b k, cy b k) = false := h1
  have k2 : ltC (cx b k, cy b k) (cx a k, cy a k) = false := h2
  unfold agree at h
  rw [drop_cons a k ha, drop_cons b k hb] at h
  simp only [lexL, k1, k2, Bool.not_false, Bool.true_and, Bool.false_or] at h
  exact h
theorem cmpS_less {a b : List (Int × Int)} {k : Nat} (h : agree a b k) (he : a.length = b.length) (hk : k < a.length) (h1 : bef (cx a k) (cy a k) (cx b k) (cy b k) = true) : cmpS a b = -1 := by
  have k1 : ltC (cx a k, cy a k) (cx b k, cy b k) = true := h1
  have : ltS a b = true := by
    rw [ltS_iff, h.1, drop_cons a k hk, drop_cons b k (by omega)]
    exact .inr ⟨he, by simp [lexL, k1]⟩
  simp [cmpS, this]
theorem cmpS_more {a b : List (Int × Int)} {k : Nat} (h : agree a b k) (he : a.length = b.length) (hk : k < a.length) (h1 : bef (cx b k) (cy b k) (cx a k) (cy a k) = true) : cmpS a b = 1 := by
  have k1 : ltC (cx b k, cy b k) (cx a k, cy a k) = true := h1
  have k2 : ltS b a = true := by
    rw [ltS_iff, h.2, drop_cons a k hk, drop_cons b k (by omega)]
    exact .inr ⟨he.symm, by simp [lexL, k1]⟩
  have k3 := strictS.asym k2
  simp [cmpS, k2, k3]
theorem cmpS_same {a b : List (Int × Int)} {k : Nat} (h : agree a b k) (he : a.length = b.length) (hk : a.length ≤ k) : cmpS a b = 0 := by
  have e1 : lexL a b = false := by rw [h.1, List.drop_eq_nil_of_le hk]; rfl
  have e2 : lexL b a = false := by rw [h.2, List.drop_eq_nil_of_le hk]; simp [lexL]
  have k1 : ltS a b = false := by rw [ltS_not]; exact ⟨by omega, fun _ => e1⟩
  have k2 : ltS b a = false := by rw [ltS_not]; exact ⟨by omega, fun _ => e2⟩
  simp [cmpS, k1, k2]
theorem cmpS_neg {a b : List (Int × Int)} : cmpS a b < 0 ↔ ltS a b = true := by
  unfold cmpS
  cases h : ltS a b <;> cases h2 : ltS b a <;> simp
theorem cmpS_ge {a b : List (Int × Int)} : (0 ≤ cmpS a b) ↔ ltS a b = false := by
  unfold cmpS
  cases h : ltS a b <;> cases h2 : ltS b a <;> simp
/-! ### moves and corners -/
def movedL (cs : List (Int × Int)) (x y : Int) : List (Int × Int) := cs.map fun c => (c.1 + x, c.2 + y)
theorem movedL_len (cs : List (Int × Int)) (x y : Int) : (movedL cs x y).length = cs.length := by simp [movedL]
def mnX (cs : List (Int × Int)) : Nat → Int := iter (fun i m => min m (cx cs i)) (cx cs 0)
def mnY (cs : List (Int × Int)) : Nat → Int := iter (fun i m => min m (cy cs i)) (cy cs 0)
theorem mnX_succ (cs : List (Int × Int)) (k : Nat) : mnX cs (k + 1) = min (mnX cs k) (cx cs k) := rfl
theorem mnY_succ (cs : List (Int × Int)) (k : Nat) : mnY cs (k + 1) = min (mnY cs k) (cy cs k) := rfl
theorem mnX_le (cs : List (Int × Int)) (k : Nat) : ∀ i, i < k → mnX cs k ≤ cx cs i := by
  induction k with
  | zero => intro i hi; omega
  | succ k ih =>
    intro i hi
    rw [mnX_succ]
    by_cases e : i = k
    · subst e; omega
    · have := ih i (by omega); omega
theorem mnY_le (cs : List (Int × Int)) (k : Nat) : ∀ i, i < k → mnY cs k ≤ cy cs i := by
  induction k with
  | zero => intro i hi; omega
  | succ k ih =>
    intro i hi
    rw [mnY_succ]
    by_cases e : i = k
    · subst e; omega
    · have := ih i (by omega); omega
theorem mnX_at (cs : List (Int × Int)) (k : Nat) : ∃ i, (i < k ∨ i = 0) ∧ mnX cs k = cx cs i := by
  induction k with
  | zero => exact ⟨0, .inr rfl, rfl⟩
  | succ k ih =>
    obtain ⟨i, h1, h2⟩ := ih
    rw [mnX_succ]
    by_cases h : mnX cs k ≤ cx cs k
    · exact ⟨i, by omega, by omega⟩
    · exact ⟨k, by omega, by omega⟩
theorem mnY_at (cs : List (Int × Int)) (k : Nat) : ∃ i, (i < k ∨ i = 0) ∧ mnY cs k = cy cs i := by
  induction k with
  | zero => exact ⟨0, .inr rfl, rfl⟩
  | succ k ih =>
    obtain ⟨i, h1, h2⟩ := ih
    rw [mnY_succ]
    by_cases h : mnY cs k ≤ cy cs k
    · exact ⟨i, by omega, by omega⟩
    · exact ⟨k, by omega, by omega⟩
def left (cs : List (Int × Int)) : Int := mnX cs cs.length
def low (cs : List (Int × Int)) : Int := mnY cs cs.length
theorem cx_get {cs : List (Int × Int)} {i : Nat} (h : i < cs.length) : cx cs i = cs[i].1 := by simp [cx, List.getD, h]
theorem cy_get {cs : List (Int × Int)} {i : Nat} (h : i < cs.length) : cy cs i = cs[i].2 := by simp [cy, List.getD, h]
theorem left_le {cs : List (Int × Int)} {c : Int × Int} (h : c ∈ cs) : left cs ≤ c.1 := by
  obtain ⟨i, hi, rfl⟩ := List.getElem_of_mem h
  rw [← cx_get hi]; exact mnX_le cs cs.length i hi
theorem low_le {cs : List (Int × Int)} {c : Int × Int} (h : c ∈ cs) : low cs ≤ c.2 := by
  obtain ⟨i, hi, rfl⟩ := List.getElem_of_mem h
  rw [← cy_get hi]; exact mnY_le cs cs.length i hi
theorem left_at {cs : List (Int × Int)} (h : cs ≠ []) : ∃ c ∈ cs, left cs = c.1 := by
  have hp : 0 < cs.length := List.length_pos_iff.2 h
  obtain ⟨i, h1, h2⟩ := mnX_at cs cs.length
  have hi : i < cs.length := by omega
  exact ⟨cs[i], List.getElem_mem hi, by rw [← cx_get hi]; exact h2⟩
theorem low_at {cs : List (Int × Int)} (h : cs ≠ []) : ∃ c ∈ cs, low cs = c.2 := by
  have hp : 0 < cs.length := List.length_pos_iff.2 h
  obtain ⟨i, h1, h2⟩ := mnY_at cs cs.length
  have hi : i < cs.length := by omega
  exact ⟨cs[i], List.getElem_mem hi, by rw [← cy_get hi]; exact h2⟩
theorem left_same {cs ds : List (Int × Int)} (h : ∀ c, c ∈ cs ↔ c ∈ ds) : cs ≠ [] → left cs = left ds := by
  intro hc
  obtain ⟨c, hc1, hc2⟩ := left_at hc
  have hd : ds ≠ [] := by intro e; subst e; exact absurd ((h c).1 hc1) (by simp)
  obtain ⟨d, hd1, hd2⟩ := left_at hd
  have h1 := left_le ((h d).2 hd1)
  have h2 := left_le ((h c).1 hc1)
  omega
theorem low_same {cs ds : List (Int × Int)} (h : ∀ c, c ∈ cs ↔ c ∈ ds) : cs ≠ [] → low cs = low ds := by
  intro hc
  obtain ⟨c, hc1, hc2⟩ := low_at hc
  have hd : ds ≠ [] := by intro e; subst e; exact absurd ((h c).1 hc1) (by simp)
  obtain ⟨d, hd1, hd2⟩ := low_at hd
  have h1 := low_le ((h d).2 hd1)
  have h2 := low_le ((h c).1 hc1)
  omega
theorem asc_moved {cs : List (Int × Int)} (h : Asc ltC cs) (x y : Int) : Asc ltC (movedL cs x y) := by
  refine List.pairwise_map.2 (h.imp fun {a b} hab => ?_)
  rw [ltC_iff] at hab ⊢
  simp only
  omega
theorem mem_moved {cs : List (Int × Int)} {x y : Int} {c : Int × Int} : c ∈ movedL cs x y ↔ (c.1 - x, c.2 - y) ∈ cs := by
  simp only [movedL, List.mem_map]
  constructor
  · rintro ⟨d, hd, rfl⟩
    simp only [Int.add_sub_cancel]; exact hd
  · intro h
    exact ⟨_, h, Prod.ext (by simp) (by simp)⟩
/-- moved to the corner, in order -/
def cornerL (cs : List (Int × Int)) : List (Int × Int) := sortL ltC (movedL cs (-left cs) (-low cs))
def l2C (cs : List (Int × Int)) : List (Int × Int) := movedL cs (-left cs) (-low cs)
theorem corner_asc {cs : List (Int × Int)} (h : Asc ltC cs) : cornerL cs = l2C cs := sortL_asc strictC (asc_moved h _ _)
theorem corner_sort {cs : List (Int × Int)} : l2C (sortL ltC cs) = cornerL cs := by
  by_cases hc : cs = []
  · subst hc; rfl
  have hm : ∀ c, c ∈ sortL ltC cs ↔ c ∈ cs := fun c => mem_sortL strictC
  have e1 := left_same (fun c => (hm c).symm) hc
  have e2 := low_same (fun c => (hm c).symm) hc
  refine sortL_eq strictC ?_ fun z => ?_
  · exact asc_moved (asc_sortL strictC _) _ _
  · rw [l2C, mem_moved, mem_moved, hm, ← e1, ← e2]
theorem shape_asc {cs : List (Int × Int)} (h : shapeB cs = true) : Asc ltC cs := by
  simp only [shapeB, Bool.and_eq_true] at h
  have h1 := allTo_true.1 h.1
  have key : ∀ d i, i + d + 1 < cs.length → ltC (cs.getD i (0, 0)) (cs.getD (i + d + 1) (0, 0)) = true := by
    intro d
    induction d with
    | zero =>
      intro i hi
      have := h1 (i + 1) (by omega)
      simp only [shapeAt, Bool.and_eq_true] at this
      simpa [ltC, cx, cy] using this.2
    | succ d ih =>
      intro i hi
      have h2 := ih i (by omega)
      have h3 := h1 (i + d + 2) (by omega)
      simp only [shapeAt, Bool.and_eq_true] at h3
      have h4 : ltC (cs.getD (i + d + 1) (0, 0)) (cs.getD (i + (d + 1) + 1) (0, 0)) = true := by simpa [ltC, cx, cy, Nat.add_assoc] using h3.2
      exact strictC.trans _ _ _ h2 h4
  refine List.pairwise_iff_getElem.2 fun i j hi hj hij => ?_
  have := key (j - i - 1) i (by omega)
  rw [show i + (j - i - 1) + 1 = j by omega] at this
  simpa [List.getD, hi, hj] using this
/-! ### motions -/
def rot (c : Int × Int) : Int × Int := (-c.2, c.1)
def flip4 (m : Nat) (c : Int × Int) : Int × Int := if 4 ≤ m then (-c.1, c.2) else c
def carTo (m : Nat) (c : Int × Int) : Nat → Int × Int := iter (fun _ c => rot c) (flip4 m c)
def car (m : Nat) (c : Int × Int) : Int × Int := carTo m c (m % 4)
def turnL (m : Nat) (cs : List (Int × Int)) : List (Int × Int) := cs.map (car m)
def tshape (m : Nat) (cs : List (Int × Int)) : List (Int × Int) := cornerL (turnL m cs)
theorem carTo_bd {m : Nat} {c : Int × Int} {B : Int} (h : -B ≤ c.1 ∧ c.1 ≤ B ∧ -B ≤ c.2 ∧ c.2 ≤ B) (k : Nat) : -B ≤ (carTo m c k).1 ∧ (carTo m c k).1 ≤ B ∧ -B ≤ (carTo m c k).2 ∧ (carTo m c k).2 ≤ B := by
  induction k with
  | zero => simp only [carTo, iter, flip4]; split <;> omega
  | succ k ih => simp only [carTo, iter, rot] at ih ⊢; omega
def oTo (cs : List (Int × Int)) : Nat → List (List (Int × Int)) := iter (fun m l => putL ltS (tshape m cs) l) []
theorem oTo_succ (cs : List (Int × Int)) (m : Nat) : oTo cs (m + 1) = putL ltS (tshape m cs) (oTo cs m) := rfl
theorem oTo_asc (cs : List (Int × Int)) (m : Nat) : Asc ltS (oTo cs m) := by
  induction m with
  | zero => exact List.Pairwise.nil
  | succ m ih => rw [oTo_succ]; exact asc_putL strictS ih
theorem oTo_len (cs : List (Int × Int)) (m : Nat) : (oTo cs m).length ≤ m := by
  induction m with
  | zero => simp [oTo, iter]
  | succ m ih => rw [oTo_succ]; have := putL_len ltS (tshape m cs) (oTo cs m); omega
theorem oTo_mem {cs t : List (Int × Int)} {m : Nat} : t ∈ oTo cs m ↔ ∃ k, k < m ∧ t = tshape k cs := by
  induction m with
  | zero => simp [oTo, iter]
  | succ m ih =>
    rw [oTo_succ, mem_putL strictS, ih]
    constructor
    · rintro (rfl | ⟨k, h1, h2⟩)
      · exact ⟨m, by omega, rfl⟩
      · exact ⟨k, by omega, h2⟩
    · rintro ⟨k, h1, h2⟩
      by_cases e : k = m
      · subst e; exact .inl h2
      · exact .inr ⟨k, by omega, h2⟩
def orL (cs : List (Int × Int)) : List (List (Int × Int)) := oTo cs 8
def oV (cs : List (Int × Int)) : List (List (Int × Int)) := if shapeB cs then orL cs else []
theorem oV_no {cs : List (Int × Int)} (h : shapeB cs = false) : oV cs = [] := by simp [oV, h]
theorem oV_yes {cs : List (Int × Int)} (h : shapeB cs = true) : oV cs = orL cs := by simp [oV, h]
theorem oV_8 (cs : List (Int × Int)) : (oV cs).length ≤ 8 := by
  unfold oV; split
  · exact oTo_len cs 8
  · simp
theorem cornerL_len (cs : List (Int × Int)) : (cornerL cs).length ≤ cs.length := by
  have := sortL_len ltC (movedL cs (-left cs) (-low cs))
  rwa [movedL_len] at this
theorem tshape_len (m : Nat) (cs : List (Int × Int)) : (tshape m cs).length ≤ cs.length := by
  have := cornerL_len (turnL m cs)
  simpa [tshape, turnL] using this
theorem corner_bd {cs : List (Int × Int)} {A B : Int} (h : ∀ c ∈ cs, A ≤ c.1 ∧ c.1 ≤ B ∧ A ≤ c.2 ∧ c.2 ≤ B) : ∀ c ∈ cornerL cs, 0 ≤ c.1 ∧ c.1 ≤ B - A ∧ 0 ≤ c.2 ∧ c.2 ≤ B - A := by
  intro c hc
  have h1 : (c.1 - -left cs, c.2 - -low cs) ∈ cs := mem_moved.1 ((mem_sortL strictC).1 hc)
  have h2 := left_le h1
  have h3 := low_le h1
  have h4 := h _ h1
  have hne : cs ≠ [] := by intro e; subst e; simp at h1
  obtain ⟨d, hd1, hd2⟩ := left_at hne
  obtain ⟨e, he1, he2⟩ := low_at hne
  have h5 := h _ hd1
  have h6 := h _ he1
  simp only at h2 h3 h4
  omega
end Go.Proofs.YtncmnmbapalonaaGreat
