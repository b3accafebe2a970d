/- Part 4 of a proof: parts, cmap, fillspec, transfer, strip, cdimpl, striptab, seqs, seqspec, cellsof, area. -/
import Derived.Test.YtchcepihmphdmaaRows
import Derived.WalkKit
import Derived.ProofKit
import Derived.OpenShut
import Derived.BigQuiet
import Derived.Lib.Hide
import Derived.Deep.QuietTactic
import Derived.Outline
import Derived.Maps.RangeWalk
import Derived.Maps.OwnOps
import Derived.StillTailTactics
import Derived.Test.YtchcepihmphdmaaMg1
import Derived.Test.YtchcepihmphdmaaMg2
import Derived.Test.YtchcepihmphdmaaMg3
namespace Go.Proofs.Ytchcepihmphdmaa
set_option linter.unusedVariables false
section
open Go.ChangeShapes Go.WideShapes Go.ChangeAt Go.RowKit
/-- two places with a side in common -/
def nearP (x y x' y' : Nat) : Prop := (x = x' ∧ (y + 1 = y' ∨ y' + 1 = y)) ∨ (y = y' ∧ (x + 1 = x' ∨ x' + 1 = x))
/-- what can be reached from a place within S -/
def Rch (S : Nat → Nat → Prop) (a b x y : Nat) : Prop := ∀ T : Nat → Nat → Prop, T a b → (∀ x y x' y', T x y → nearP x y x' y' → S x' y' → T x' y') → T x y
theorem Rch.base (S : Nat → Nat → Prop) (a b : Nat) : Rch S a b a b := fun _ h _ => h
theorem Rch.step {S : Nat → Nat → Prop} {a b x y x' y' : Nat} (h : Rch S a b x y) (hn : nearP x y x' y') (hs : S x' y') : Rch S a b x' y' := fun T h1 h2 => h2 x y x' y' (h T h1 h2) hn hs
theorem Rch.sub {S : Nat → Nat → Prop} {a b x y : Nat} (h : Rch S a b x y) (h0 : S a b) : S x y := h S h0 fun _ _ _ _ _ _ hs => hs
/-- a closed set of reached places is all that can be reached -/
theorem Rch_of {S T : Nat → Nat → Prop} {a b : Nat} (h0 : T a b) (h1 : ∀ x y, T x y → Rch S a b x y) (h2 : ∀ x y x' y', T x y → nearP x y x' y' → S x' y' → T x' y') (x y : Nat) : T x y ↔ Rch S a b x y :=
  ⟨h1 x y, fun h => h T h0 h2⟩
def First (S : Nat → Nat → Prop) (a b : Nat) : Prop := S a b ∧ ∀ x y, S x y → b < y ∨ (b = y ∧ a ≤ x)
theorem First.one {S : Nat → Nat → Prop} {a b a' b' : Nat} (h : First S a b) (h' : First S a' b') : a = a' ∧ b = b' := by
  have h1 := h.2 a' b' h'.1
  have h2 := h'.2 a b h.1
  omega
/-- the rows p hold the set T -/
def RowsOf (W H : Nat) (p : List Int) (T : Nat → Nat → Prop) : Prop :=
  p.length = H ∧ ∀ y, y < H → nth p y = ((rowN p y : Nat) : Int) ∧ rowN p y < 2 ^ W ∧ ∀ x, x < W → ((rowN p y).testBit x = true ↔ T x y)
theorem RowsOf.one {W H : Nat} {p q : List Int} {T : Nat → Nat → Prop} (h : RowsOf W H p T) (h' : RowsOf W H q T) : p = q := by
  apply List.ext_getElem (by rw [h.1, h'.1])
  intro i h1 h2
  obtain ⟨a1, a2, a3⟩ := h.2 i (by rw [← h.1]; exact h1)
  obtain ⟨b1, b2, b3⟩ := h'.2 i (by rw [← h.1]; exact h1)
  rw [nth_get h1, nth_get h2, a1, b1]
  congr 1
  apply Nat.eq_of_testBit_eq
  intro x
  by_cases hx : x < W
  · have := (a3 x hx).trans (b3 x hx).symm
    cases hp : (rowN p i).testBit x <;> cases hq : (rowN q i).testBit x <;> simp_all
  · rw [Nat.testBit_lt_two_pow (Nat.lt_of_lt_of_le a2 (Nat.pow_le_pow_right (by omega) (by omega))), Nat.testBit_lt_two_pow (Nat.lt_of_lt_of_le b2 (Nat.pow_le_pow_right (by omega) (by omega)))]
theorem RowsOf.congr {W H : Nat} {p : List Int} {T T' : Nat → Nat → Prop} (h : RowsOf W H p T) (e : ∀ x y, x < W → y < H → (T x y ↔ T' x y)) : RowsOf W H p T' :=
  ⟨h.1, fun y hy => ⟨(h.2 y hy).1, (h.2 y hy).2.1, fun x hx => ((h.2 y hy).2.2 x hx).trans (e x y hx hy)⟩⟩
/-- the parts of S, one behind the other -/
def PartsR (W H : Nat) : List (List Int) → (Nat → Nat → Prop) → Prop
  | [], S => ∀ x y, ¬ S x y
  | p :: ps, S => ∃ a b, First S a b ∧ RowsOf W H p (Rch S a b) ∧ PartsR W H ps fun x y => S x y ∧ ¬ Rch S a b x y
theorem PartsR.one {W H : Nat} : ∀ {ps qs : List (List Int)} {S : Nat → Nat → Prop}, PartsR W H ps S → PartsR W H qs S → ps = qs
  | [], [], _, _, _ => rfl
  | [], q :: qs, S, h, ⟨a, b, hf, _⟩ => absurd hf.1 (h a b)
  | p :: ps, [], S, ⟨a, b, hf, _⟩, h => absurd hf.1 (h a b)
  | p :: ps, q :: qs, S, ⟨a, b, hf, hp, hr⟩, ⟨a', b', hf', hp', hr'⟩ => by
    obtain ⟨rfl, rfl⟩ := hf.one hf'
    rw [hp.one hp', PartsR.one hr hr']
theorem Rch_congr {S S' : Nat → Nat → Prop} (e : ∀ x y, S x y ↔ S' x y) {a b x y : Nat} : Rch S a b x y ↔ Rch S' a b x y := by
  have : S = S' := funext fun x => funext fun y => propext (e x y)
  rw [this]
theorem PartsR_congr {W H : Nat} {ps : List (List Int)} {S S' : Nat → Nat → Prop} (h : PartsR W H ps S) (e : ∀ x y, S x y ↔ S' x y) : PartsR W H ps S' := by
  have : S = S' := funext fun x => funext fun y => propext (e x y)
  rw [← this]; exact h
/-- the places of rows that are given by a function -/
def inF (W H : Nat) (f : Nat → Nat) (x y : Nat) : Prop := x < W ∧ y < H ∧ (f y).testBit x = true
def FitF (W H : Nat) (f : Nat → Nat) : Prop := ∀ y, y < H → f y < 2 ^ W
theorem rowN_tab {H : Nat} {f : Nat → Nat} {y : Nat} (h : y < H) : rowN (tab H (intF f)) y = f y := by
  rw [rowN, tab_nth _ h, intF, Int.toNat_natCast]
theorem rowsOf_tab {W H : Nat} {f : Nat → Nat} {T : Nat → Nat → Prop} (hf : FitF W H f) (h : ∀ x y, x < W → y < H → ((f y).testBit x = true ↔ T x y)) : RowsOf W H (tab H (intF f)) T := by
  refine ⟨tab_len _ _, fun y hy => ?_⟩
  rw [rowN_tab hy, tab_nth _ hy]
  exact ⟨rfl, hf y hy, fun x hx => h x y hx hy⟩
theorem regB_tab {W H : Nat} {f : Nat → Nat} (h1 : 1 ≤ W) (h2 : W ≤ 6) (h3 : 1 ≤ H) (h4 : H ≤ 6) (hf : FitF W H f) : regB W (tab H (intF f)) = true := by
  simp only [regB, Bool.and_eq_true, btw_iff, tab_len]
  refine ⟨⟨by omega, by omega⟩, allTo_true.2 fun k hk => ?_⟩
  rw [tab_nth _ hk]
  have := hf k hk
  have e : ((2 ^ W : Nat) : Int) = 2 ^ W := by simp
  simp [rowB, intF, shlN]
  omega
/-! a place put in, a place taken out -/
def putF (f : Nat → Nat) (x y : Nat) : Nat → Nat := updN f y (orN (f y) (shlN 1 x))
def cutF (f : Nat → Nat) (x y : Nat) : Nat → Nat := updN f y (butN (f y) (shlN 1 x))
theorem butN_bitP (a b i : Nat) : (butN a b).testBit i = (a.testBit i && !b.testBit i) := by
  rw [butN, Nat.testBit_xor, Nat.testBit_and]
  cases a.testBit i <;> cases b.testBit i <;> rfl
theorem putF_bit (f : Nat → Nat) (x y x' y' : Nat) : (putF f x y y').testBit x' = true ↔ ((f y').testBit x' = true ∨ (x = x' ∧ y = y')) := by
  unfold putF updN
  by_cases e : y' = y
  · subst e
    rw [if_pos rfl, orN, shlN, Nat.one_mul, Nat.testBit_or, Nat.testBit_two_pow, Bool.or_eq_true, decide_eq_true_eq]
    simp
  · rw [if_neg e]
    constructor
    · exact .inl
    · rintro (h | h)
      · exact h
      · exact absurd h.2.symm e
theorem cutF_bit (f : Nat → Nat) (x y x' y' : Nat) : (cutF f x y y').testBit x' = true ↔ ((f y').testBit x' = true ∧ ¬ (x = x' ∧ y = y')) := by
  unfold cutF updN
  by_cases e : y' = y
  · subst e
    rw [if_pos rfl, butN_bitP, shlN, Nat.one_mul, Nat.testBit_two_pow]
    by_cases h : x = x' <;> simp [h]
  · rw [if_neg e]
    constructor
    · exact fun h => ⟨h, fun k => e k.2.symm⟩
    · exact fun h => h.1
theorem putF_fit {W H : Nat} {f : Nat → Nat} (h : FitF W H f) {x : Nat} (hx : x < W) (y : Nat) : FitF W H (putF f x y) := by
  intro y' hy'
  unfold putF updN
  split
  · rename_i e
    subst e
    refine Nat.or_lt_two_pow (h _ hy') ?_
    rw [shlN, Nat.one_mul]
    exact Nat.pow_lt_pow_right (by omega) hx
  · exact h y' hy'
theorem cutF_fit {W H : Nat} {f : Nat → Nat} (h : FitF W H f) (x y : Nat) : FitF W H (cutF f x y) := by
  intro y' hy'
  unfold cutF updN
  split
  · rename_i e
    subst e
    refine Nat.lt_of_le_of_lt ?_ (h _ hy')
    refine Nat.le_of_testBit ?_
    intro i hi
    rw [butN_bitP] at hi
    simp at hi; exact hi.1
  · exact h y' hy'
theorem inF_put {W H : Nat} {f : Nat → Nat} {x y : Nat} (hx : x < W) (hy : y < H) (x' y' : Nat) : inF W H (putF f x y) x' y' ↔ (inF W H f x' y' ∨ (x = x' ∧ y = y')) := by
  unfold inF
  rw [putF_bit]
  constructor
  · rintro ⟨h1, h2, h3 | h3⟩
    · exact .inl ⟨h1, h2, h3⟩
    · exact .inr h3
  · rintro (⟨h1, h2, h3⟩ | ⟨rfl, rfl⟩)
    · exact ⟨h1, h2, .inl h3⟩
    · exact ⟨hx, hy, .inr ⟨rfl, rfl⟩⟩
theorem inF_cut {W H : Nat} {f : Nat → Nat} (x y x' y' : Nat) : inF W H (cutF f x y) x' y' ↔ (inF W H f x' y' ∧ ¬ (x = x' ∧ y = y')) := by
  unfold inF
  rw [cutF_bit]
  exact ⟨fun h => ⟨⟨h.1, h.2.1, h.2.2.1⟩, h.2.2.2⟩, fun h => ⟨h.1.1, h.1.2.1, h.1.2.2, h.2⟩⟩
/-- how much is left: for the measure -/
def weiF (f : Nat → Nat) : Nat → Nat
  | 0 => 0
  | n + 1 => weiF f n + f n
theorem weiF_cut {f : Nat → Nat} {x y : Nat} (h : (f y).testBit x = true) : ∀ n, y < n → weiF (cutF f x y) n + 1 ≤ weiF f n := by
  have hlt : butN (f y) (shlN 1 x) + 1 ≤ f y := by
    have hle : butN (f y) (shlN 1 x) ≤ f y := Nat.le_of_testBit fun i hi => by
      rw [butN_bitP] at hi; simp at hi; exact hi.1
    rcases Nat.lt_or_ge (butN (f y) (shlN 1 x)) (f y) with h1 | h1
    · exact h1
    · exfalso
      have e : butN (f y) (shlN 1 x) = f y := by omega
      have := butN_bitP (f y) (shlN 1 x) x
      rw [e, h, shlN, Nat.one_mul, Nat.testBit_two_pow_self] at this
      simp at this
  have hsame : ∀ n, n ≤ y → weiF (cutF f x y) n = weiF f n := by
    intro n
    induction n with
    | zero => intro _; rfl
    | succ n ih =>
      intro hn
      rw [weiF, weiF, ih (by omega)]
      unfold cutF updN
      rw [if_neg (by omega)]
  intro n
  induction n with
  | zero => intro h; omega
  | succ n ih =>
    intro hn
    rw [weiF, weiF]
    by_cases e : n = y
    · subst e
      rw [hsame n (Nat.le_refl _)]
      unfold cutF updN
      rw [if_pos rfl]
      omega
    · have := ih (by omega)
      have e2 : cutF f x y n = f n := by unfold cutF updN; rw [if_neg e]
      rw [e2]
      omega
/-! ### the program's search of one part -/
/-- left: what is left; part: what has been put into the part; todo: what waits -/
structure Flood (W H : Nat) (S : Nat → Nat → Prop) (a b : Nat) (left part : Nat → Nat) (todo : List (Nat × Nat)) : Prop where
  fl : FitF W H left
  fp : FitF W H part
  top : ∀ c ∈ todo, c.1 < W ∧ c.2 < H
  all : ∀ x y, S x y ↔ (inF W H left x y ∨ inF W H part x y ∨ (x, y) ∈ todo)
  dis : ∀ x y, inF W H left x y → ¬ inF W H part x y ∧ (x, y) ∉ todo
  got : ∀ x y, (inF W H part x y ∨ (x, y) ∈ todo) → Rch S a b x y
  own : inF W H part a b ∨ (a, b) ∈ todo
/-- every neighbour of what is in the part has been seen -/
def Shut (W H : Nat) (left part : Nat → Nat) : Prop := ∀ x y x' y', inF W H part x y → nearP x y x' y' → ¬ inF W H left x' y'
theorem Flood.start {W H : Nat} {left : Nat → Nat} {a b : Nat} (hf : FitF W H left) (hs : inF W H left a b) : Flood W H (inF W H left) a b (cutF left a b) (fun _ => 0) [(a, b)] := by
  have h0 : ∀ x y, ¬ inF W H (fun _ => 0) x y := fun x y h => by simp [inF] at h
  refine ⟨cutF_fit hf a b, fun y _ => Nat.two_pow_pos W, fun c hc => ?_, fun x y => ?_, fun x y h => ?_, fun x y h => ?_, .inr (by simp)⟩
  · simp at hc; subst hc; exact ⟨hs.1, hs.2.1⟩
  · rw [inF_cut]
    by_cases e : a = x ∧ b = y
    · obtain ⟨rfl, rfl⟩ := e
      simp [hs]
    · have e2 : ¬ ((x, y) ∈ [(a, b)]) := by simp; intro h1 h2; exact e ⟨h1.symm, h2.symm⟩
      constructor
      · exact fun h => .inl ⟨h, e⟩
      · rintro (h | h | h)
        · exact h.1
        · exact absurd h (h0 x y)
        · exact absurd h e2
  · rw [inF_cut] at h
    refine ⟨h0 x y, fun h2 => ?_⟩
    simp at h2
    exact h.2 ⟨h2.1.symm, h2.2.symm⟩
  · rcases h with h | h
    · exact absurd h (h0 x y)
    · simp at h
      obtain ⟨rfl, rfl⟩ := h
      exact Rch.base _ _ _
theorem shut_start (W H : Nat) (left : Nat → Nat) : Shut W H left fun _ => 0 := fun x y _ _ h => by simp [inF] at h
/-- the first that waits goes into the part -/
theorem Flood.pop {W H : Nat} {S : Nat → Nat → Prop} {a b : Nat} {left part : Nat → Nat} {x y : Nat} {todo : List (Nat × Nat)} (F : Flood W H S a b left part ((x, y) :: todo)) : Flood W H S a b left (putF part x y) todo := by
  obtain ⟨hx, hy⟩ := F.top (x, y) (by simp)
  simp only at hx hy
  have hm : ∀ x' y', (inF W H (putF part x y) x' y' ∨ (x', y') ∈ todo) ↔ (inF W H part x' y' ∨ (x', y') ∈ (x, y) :: todo) := fun x' y' => by
    rw [inF_put hx hy, List.mem_cons]
    constructor
    · rintro ((h | ⟨rfl, rfl⟩) | h)
      · exact .inl h
      · exact .inr (.inl rfl)
      · exact .inr (.inr h)
    · rintro (h | h | h)
      · exact .inl (.inl h)
      · simp only [Prod.mk.injEq] at h; exact .inl (.inr ⟨h.1.symm, h.2.symm⟩)
      · exact .inr h
  refine ⟨F.fl, putF_fit F.fp hx y, fun c hc => F.top c (List.mem_cons_of_mem _ hc), fun x' y' => ?_, fun x' y' h => ?_, fun x' y' h => F.got x' y' ((hm x' y').1 h), (hm a b).2 F.own⟩
  · rw [F.all, hm]
  · have := F.dis x' y' h
    have h2 : ¬ (inF W H (putF part x y) x' y' ∨ (x', y') ∈ todo) := fun k => by
      rcases (hm x' y').1 k with k | k
      · exact this.1 k
      · exact this.2 k
    exact ⟨fun k => h2 (.inl k), fun k => h2 (.inr k)⟩
/-- a neighbour of what is in the part is put behind those that wait -/
theorem Flood.push {W H : Nat} {S : Nat → Nat → Prop} {a b : Nat} {left part : Nat → Nat} {x y x' y' : Nat} {todo : List (Nat × Nat)} (F : Flood W H S a b left part todo) (hp : inF W H part x y) (hn : nearP x y x' y') (hl : inF W H left x' y') :
    Flood W H S a b (cutF left x' y') part (todo ++ [(x', y')]) := by
  refine ⟨cutF_fit F.fl _ _, F.fp, fun c hc => ?_, fun u v => ?_, fun u v h => ?_, fun u v h => ?_, ?_⟩
  · rcases List.mem_append.1 hc with h | h
    · exact F.top c h
    · simp at h; subst h; exact ⟨hl.1, hl.2.1⟩
  · rw [F.all, inF_cut, List.mem_append]
    by_cases e : x' = u ∧ y' = v
    · obtain ⟨rfl, rfl⟩ := e
      simp [hl]
    · have e2 : ¬ ((u, v) ∈ [(x', y')]) := by simp; intro h1 h2; exact e ⟨h1.symm, h2.symm⟩
      constructor
      · rintro (h | h | h)
        · exact .inl ⟨h, e⟩
        · exact .inr (.inl h)
        · exact .inr (.inr (.inl h))
      · rintro (h | h | h | h)
        · exact .inl h.1
        · exact .inr (.inl h)
        · exact .inr (.inr h)
        · exact absurd h e2
  · rw [inF_cut] at h
    refine ⟨(F.dis u v h.1).1, fun k => ?_⟩
    rcases List.mem_append.1 k with k | k
    · exact (F.dis u v h.1).2 k
    · simp at k; exact h.2 ⟨k.1.symm, k.2.symm⟩
  · rcases h with h | h
    · exact F.got u v (.inl h)
    · rcases List.mem_append.1 h with h | h
      · exact F.got u v (.inr h)
      · simp at h
        obtain ⟨rfl, rfl⟩ := h
        exact (F.got x y (.inl hp)).step hn ((F.all _ _).2 (.inl hl))
  · rcases F.own with h | h
    · exact .inl h
    · exact .inr (List.mem_append_left _ h)
/-- nothing waits: the part is all that can be reached -/
theorem Flood.fin {W H : Nat} {S : Nat → Nat → Prop} {a b : Nat} {left part : Nat → Nat} (F : Flood W H S a b left part []) (hc : Shut W H left part) :
    RowsOf W H (tab H (intF part)) (Rch S a b) ∧ ∀ x y, inF W H left x y ↔ (S x y ∧ ¬ Rch S a b x y) := by
  have hall : ∀ x y, S x y ↔ (inF W H left x y ∨ inF W H part x y) := fun x y => by rw [F.all]; simp
  have h := Rch_of (S := S) (T := inF W H part) (a := a) (b := b) (by rcases F.own with h | h; exact h; simp at h) (fun x y h => F.got x y (.inl h)) (fun x y x' y' h hn hs => by
    rcases (hall x' y').1 hs with k | k
    · exact absurd k (hc x y x' y' h hn)
    · exact k)
  refine ⟨rowsOf_tab F.fp fun x y hx hy => ?_, fun x y => ?_⟩
  · rw [← h]
    exact ⟨fun k => ⟨hx, hy, k⟩, fun k => k.2.2⟩
  · rw [← h, hall]
    constructor
    · exact fun k => ⟨.inl k, (F.dis x y k).1⟩
    · rintro ⟨k | k, k2⟩
      · exact k
      · exact absurd k k2
/-! ### the reference's search of one part -/
theorem near_sides {x y x' y' : Nat} : nearP x y x' y' ↔ ((x' = x + 1 ∧ y' = y) ∨ (x' = x ∧ y' = y + 1) ∨ (x = x' + 1 ∧ y' = y) ∨ (x' = x ∧ y = y' + 1)) := by
  unfold nearP; omega
def castP (l : List (Nat × Nat)) : List (Int × Int) := l.map fun c => ((c.1 : Int), (c.2 : Int))
def pxN (l : List (Nat × Nat)) (k : Nat) : Nat := (l.getD k (0, 0)).1
def pyN (l : List (Nat × Nat)) (k : Nat) : Nat := (l.getD k (0, 0)).2
theorem castP_len (l : List (Nat × Nat)) : (castP l).length = l.length := by simp [castP]
theorem castP_cx (l : List (Nat × Nat)) (k : Nat) : cx (castP l) k = (pxN l k : Nat) := by
  by_cases h : k < l.length
  · simp [cx, castP, pxN, List.getD, h]
  · simp [cx, castP, pxN, List.getD, h]
theorem castP_cy (l : List (Nat × Nat)) (k : Nat) : cy (castP l) k = (pyN l k : Nat) := by
  by_cases h : k < l.length
  · simp [cy, castP, pyN, List.getD, h]
  · simp [cy, castP, pyN, List.getD, h]
theorem castP_snoc (l : List (Nat × Nat)) (x y : Nat) : castP (l ++ [(x, y)]) = castP l ++ [((x : Int), (y : Int))] := by simp [castP]
theorem pN_get {l : List (Nat × Nat)} {k : Nat} (h : k < l.length) : l[k] = (pxN l k, pyN l k) := by simp [pxN, pyN, List.getD, h]
theorem pN_mem {l : List (Nat × Nat)} {k : Nat} (h : k < l.length) : (pxN l k, pyN l k) ∈ l := by rw [← pN_get h]; exact List.getElem_mem h
theorem pN_app {l m : List (Nat × Nat)} {k : Nat} (h : k < l.length) : pxN (l ++ m) k = pxN l k ∧ pyN (l ++ m) k = pyN l k := by
  simp [pxN, pyN, List.getD, List.getElem?_append_left h]
theorem length_le_of_sub : ∀ {l m : List (Nat × Nat)}, l.Nodup → (∀ c ∈ l, c ∈ m) → l.length ≤ m.length
  | [], m, _, _ => Nat.zero_le _
  | c :: l, m, hn, hs => by
    have hc := hs c (by simp)
    have h1 := List.nodup_cons.1 hn
    have := length_le_of_sub (l := l) (m := m.erase c) h1.2 (fun d hd => (List.mem_erase_of_ne (fun e => h1.1 (by rw [← e]; exact hd))).2 (hs d (List.mem_cons_of_mem _ hd)))
    rw [List.length_erase_of_mem hc] at this
    have h2 : 0 < m.length := List.length_pos_of_mem hc
    simp only [List.length_cons]
    omega
def inL (l : List (Nat × Nat)) (x y : Nat) : Prop := (x, y) ∈ l
structure Grow (left : List (Nat × Nat)) (a b : Nat) (part : List (Nat × Nat)) : Prop where
  nd : part.Nodup
  sub : ∀ c ∈ part, c ∈ left
  got : ∀ x y, (x, y) ∈ part → Rch (inL left) a b x y
  own : (a, b) ∈ part
theorem Grow.len {left part : List (Nat × Nat)} {a b : Nat} (G : Grow left a b part) : part.length ≤ left.length := length_le_of_sub G.nd G.sub
theorem Grow.start {left : List (Nat × Nat)} {a b : Nat} (h : (a, b) ∈ left) : Grow left a b [(a, b)] :=
  ⟨by simp, fun c hc => by simp at hc; subst hc; exact h, fun x y hc => by simp at hc; obtain ⟨rfl, rfl⟩ := hc; exact Rch.base _ _ _, by simp⟩
theorem Grow.push {left part : List (Nat × Nat)} {a b x y : Nat} (G : Grow left a b part) {i : Nat} (hi : i < part.length) (hn : nearP (pxN part i) (pyN part i) x y) (hl : (x, y) ∈ left) (h : (x, y) ∉ part) : Grow left a b (part ++ [(x, y)]) := by
  refine ⟨?_, fun c hc => ?_, fun u v hc => ?_, List.mem_append_left _ G.own⟩
  · rw [List.nodup_append]
    refine ⟨G.nd, by simp, fun c hc d hd => ?_⟩
    simp at hd; subst hd
    intro e; subst e; exact h hc
  · rcases List.mem_append.1 hc with hc | hc
    · exact G.sub c hc
    · simp at hc; subst hc; exact hl
  · rcases List.mem_append.1 hc with hc | hc
    · exact G.got u v hc
    · simp at hc
      obtain ⟨rfl, rfl⟩ := hc
      exact (G.got _ _ (pN_mem hi)).step hn hl
/-- the neighbours of the first i have been taken up; of the next one those among the first k places -/
def SeenG (left part : List (Nat × Nat)) (i : Nat) : Prop := ∀ j, j < i → ∀ c ∈ left, nearP (pxN part j) (pyN part j) c.1 c.2 → c ∈ part
def SeenK (left part : List (Nat × Nat)) (i k : Nat) : Prop := ∀ q, q < k → nearP (pxN part i) (pyN part i) (pxN left q) (pyN left q) → (pxN left q, pyN left q) ∈ part
theorem SeenG.app {left part m : List (Nat × Nat)} {i : Nat} (h : SeenG left part i) (hi : i ≤ part.length) : SeenG left (part ++ m) i := fun j hj c hc hn => by
  obtain ⟨e1, e2⟩ := pN_app (m := m) (show j < part.length by omega)
  rw [e1, e2] at hn
  exact List.mem_append_left _ (h j hj c hc hn)
theorem SeenK.app {left part m : List (Nat × Nat)} {i k : Nat} (h : SeenK left part i k) (hi : i < part.length) : SeenK left (part ++ m) i k := fun q hq hn => by
  obtain ⟨e1, e2⟩ := pN_app (m := m) hi
  rw [e1, e2] at hn
  exact List.mem_append_left _ (h q hq hn)
theorem SeenG.next {left part : List (Nat × Nat)} {i : Nat} (h : SeenG left part i) (hk : SeenK left part i left.length) : SeenG left part (i + 1) := fun j hj c hc hn => by
  by_cases e : j = i
  · subst e
    obtain ⟨q, hq, rfl⟩ := List.getElem_of_mem hc
    rw [pN_get hq] at hn ⊢
    exact hk q hq hn
  · exact h j (by omega) c hc hn
theorem Grow.fin {left part : List (Nat × Nat)} {a b : Nat} (G : Grow left a b part) (h : SeenG left part part.length) (x y : Nat) : (x, y) ∈ part ↔ Rch (inL left) a b x y :=
  Rch_of (S := inL left) (T := inL part) (a := a) (b := b) G.own G.got (fun x y x' y' hp hn hs => by
    obtain ⟨j, hj, e⟩ := List.getElem_of_mem hp
    rw [pN_get hj] at e
    simp only [Prod.mk.injEq] at e
    refine h j hj (x', y') hs ?_
    rw [e.1, e.2]; exact hn) x y
/-- the rows that are filled with the first i cells of a list -/
def rwF (l : List (Nat × Nat)) : Nat → Nat → Nat := iter (fun i f => putF f (pxN l i) (pyN l i)) fun _ => 0
theorem rwF_succ (l : List (Nat × Nat)) (i : Nat) : rwF l (i + 1) = putF (rwF l i) (pxN l i) (pyN l i) := rfl
theorem rwF_bit (l : List (Nat × Nat)) (x y : Nat) : ∀ i, i ≤ l.length → ((rwF l i y).testBit x = true ↔ (x, y) ∈ l.take i)
  | 0, _ => by simp [rwF, iter]
  | i + 1, h => by
    rw [rwF_succ, putF_bit, rwF_bit l x y i (by omega), List.take_succ_eq_append_getElem (by omega), List.mem_append, pN_get]
    simp
    constructor
    · rintro (h | ⟨rfl, rfl⟩)
      · exact .inl h
      · exact .inr ⟨rfl, rfl⟩
    · rintro (h | ⟨rfl, rfl⟩)
      · exact .inl h
      · exact .inr ⟨rfl, rfl⟩
theorem rwF_fit {W H : Nat} {l : List (Nat × Nat)} (h : ∀ c ∈ l, c.1 < W) : ∀ i, i ≤ l.length → FitF W H (rwF l i)
  | 0, _ => fun y _ => Nat.two_pow_pos W
  | i + 1, hi => putF_fit (rwF_fit h i (by omega)) (h _ (pN_mem (by omega))) _
/-- the sum is the union: the place is not filled yet -/
theorem rwF_add {l : List (Nat × Nat)} (hn : l.Nodup) {i : Nat} (h : i < l.length) : rwF l i (pyN l i) + shlN 1 (pxN l i) = orN (rwF l i (pyN l i)) (shlN 1 (pxN l i)) := by
  have hb : (rwF l i (pyN l i)).testBit (pxN l i) = false := by
    cases e : (rwF l i (pyN l i)).testBit (pxN l i)
    · rfl
    · exfalso
      have := (rwF_bit l _ _ i (by omega)).1 e
      rw [← pN_get h] at this
      obtain ⟨j, hj, e2⟩ := List.getElem_of_mem this
      rw [List.getElem_take] at e2
      have hj2 : j < i := by simp at hj; omega
      exact absurd ((List.nodup_iff_pairwise_ne.1 hn |> List.pairwise_iff_getElem.1) j i (by omega) h hj2) (by simp [e2])
  unfold orN shlN; rw [Nat.one_mul]; exact add_or hb
theorem parts_cons {W H : Nat} {left part : List (Nat × Nat)} {a b : Nat} {ps : List (List Int)} (hf : First (inL left) a b) (G : Grow left a b part) (h : SeenG left part part.length) (hb : ∀ c ∈ left, c.1 < W ∧ c.2 < H)
    (hr : PartsR W H ps (inL (left.filter fun c => decide (c ∉ part)))) : PartsR W H (tab H (intF (rwF part part.length)) :: ps) (inL left) := by
  refine ⟨a, b, hf, rowsOf_tab (rwF_fit (fun c hc => (hb c (G.sub c hc)).1) _ (Nat.le_refl _)) fun x y hx hy => ?_, PartsR_congr hr fun x y => ?_⟩
  · rw [rwF_bit _ _ _ _ (Nat.le_refl _), List.take_length, G.fin h]
  · rw [← G.fin h]
    unfold inL
    rw [List.mem_filter, decide_eq_true_eq]
/-! ### the cells in order -/
def ordP (c d : Nat × Nat) : Prop := c.2 < d.2 ∨ (c.2 = d.2 ∧ c.1 < d.1)
theorem First_head {a b : Nat} {l : List (Nat × Nat)} (h : ((a, b) :: l).Pairwise ordP) : First (inL ((a, b) :: l)) a b := by
  refine ⟨by simp [inL], fun x y hc => ?_⟩
  rcases List.mem_cons.1 hc with e | hc
  · simp only [Prod.mk.injEq] at e
    omega
  · have := (List.pairwise_cons.1 h).1 _ hc
    simp only [ordP] at this
    omega
def cRowN (rows : List Int) (y : Nat) (cs : List (Nat × Nat)) : Nat → List (Nat × Nat) := iter (fun x cs => if (rowN rows y).testBit x then cs ++ [(x, y)] else cs) cs
def cToN (W : Nat) (rows : List Int) : Nat → List (Nat × Nat) := iter (fun y cs => cRowN rows y cs W) []
def cellsN (W : Nat) (rows : List Int) : List (Nat × Nat) := cToN W rows rows.length
theorem cRowN_succ (rows : List Int) (y : Nat) (cs : List (Nat × Nat)) (x : Nat) : cRowN rows y cs (x + 1) = if (rowN rows y).testBit x then cRowN rows y cs x ++ [(x, y)] else cRowN rows y cs x := rfl
theorem cRowN_cast (rows : List Int) (y : Nat) (cs : List (Nat × Nat)) : ∀ x, castP (cRowN rows y cs x) = cRow rows y (castP cs) x
  | 0 => rfl
  | x + 1 => by
    rw [cRowN_succ]
    have ih := cRowN_cast rows y cs x
    cases hb : (rowN rows y).testBit x
    · rw [cRow_f _ hb]; simpa using ih
    · rw [cRow_t _ hb, if_pos rfl, castP_snoc, ih]
theorem cToN_cast (W : Nat) (rows : List Int) : ∀ y, castP (cToN W rows y) = cTo W rows y
  | 0 => rfl
  | y + 1 => by
    rw [cTo_succ, ← cToN_cast W rows y, ← cRowN_cast]; rfl
theorem cellsN_cast (W : Nat) (rows : List Int) : castP (cellsN W rows) = cellsR W rows := cToN_cast W rows _
theorem cRowN_mem (rows : List Int) (y : Nat) (cs : List (Nat × Nat)) (u v : Nat) : ∀ x, (u, v) ∈ cRowN rows y cs x ↔ ((u, v) ∈ cs ∨ (v = y ∧ u < x ∧ (rowN rows y).testBit u = true))
  | 0 => by simp [cRowN, iter]
  | x + 1 => by
    rw [cRowN_succ]
    have ih := cRowN_mem rows y cs u v x
    by_cases hb : (rowN rows y).testBit x = true
    · rw [if_pos hb, List.mem_append, ih]
      simp
      constructor
      · rintro ((h | h) | ⟨rfl, rfl⟩)
        · exact .inl h
        · exact .inr ⟨h.1, by omega, h.2.2⟩
        · exact .inr ⟨rfl, by omega, hb⟩
      · rintro (h | ⟨rfl, h2, h3⟩)
        · exact .inl (.inl h)
        · by_cases e : u = x
          · exact .inr ⟨e, rfl⟩
          · exact .inl (.inr ⟨rfl, by omega, h3⟩)
    · rw [if_neg hb, ih]
      constructor
      · rintro (h | h)
        · exact .inl h
        · exact .inr ⟨h.1, by omega, h.2.2⟩
      · rintro (h | ⟨rfl, h2, h3⟩)
        · exact .inl h
        · refine .inr ⟨rfl, ?_, h3⟩
          by_cases e : u = x
          · subst e; exact absurd h3 hb
          · omega
theorem cToN_mem (W : Nat) (rows : List Int) (u v : Nat) : ∀ y, (u, v) ∈ cToN W rows y ↔ (v < y ∧ u < W ∧ (rowN rows v).testBit u = true)
  | 0 => by simp [cToN, iter]
  | y + 1 => by
    have ih := cToN_mem W rows u v y
    show (u, v) ∈ cRowN rows y (cToN W rows y) W ↔ _
    rw [cRowN_mem, ih]
    constructor
    · rintro (h | ⟨rfl, h⟩)
      · exact ⟨by omega, h.2⟩
      · exact ⟨by omega, h⟩
    · rintro ⟨h1, h2⟩
      by_cases e : v = y
      · subst e; exact .inr ⟨rfl, h2⟩
      · exact .inl ⟨by omega, h2⟩
theorem cellsN_mem {W : Nat} {rows : List Int} {u v : Nat} : (u, v) ∈ cellsN W rows ↔ (v < rows.length ∧ u < W ∧ (rowN rows v).testBit u = true) := cToN_mem W rows u v _
theorem cRowN_ord (rows : List Int) (y : Nat) (cs : List (Nat × Nat)) (h : cs.Pairwise ordP) (hy : ∀ c ∈ cs, c.2 < y) : ∀ x, (cRowN rows y cs x).Pairwise ordP
  | 0 => h
  | x + 1 => by
    rw [cRowN_succ]
    have ih := cRowN_ord rows y cs h hy x
    split
    · rw [List.pairwise_append]
      refine ⟨ih, by simp, fun c hc d hd => ?_⟩
      simp at hd; subst hd
      obtain ⟨u, v⟩ := c
      rcases (cRowN_mem rows y cs u v x).1 hc with k | k
      · exact .inl (hy _ k)
      · exact .inr ⟨k.1, k.2.1⟩
    · exact ih
theorem cToN_ord (W : Nat) (rows : List Int) : ∀ y, (cToN W rows y).Pairwise ordP
  | 0 => by simp [cToN, iter]
  | y + 1 => cRowN_ord rows y _ (cToN_ord W rows y) (fun c hc => by obtain ⟨u, v⟩ := c; exact ((cToN_mem W rows u v y).1 hc).1) W
theorem cellsN_ord (W : Nat) (rows : List Int) : (cellsN W rows).Pairwise ordP := cToN_ord W rows _
end
section
open Go.ChangeShapes Go.WideShapes Go.ChangeAt Go.RowKit
abbrev ky (x : Nat) : Lit := .int .i64 (x : Int)
theorem ky_is (x : Nat) : WideAt.IsKeyLit (ky x) := trivial
theorem ky_ne {x y : Nat} (h : x ≠ y) : ky x ≠ ky y := by
  intro e
  simp only [ky, Lit.int.injEq, true_and] at e
  omega
/-- D holds the counts f, at numbers below N -/
structure CMap (N : Nat) (D : DataW Unit) (f : Nat → Int) : Prop where
  map : Maps.IsMap D
  key : ∀ kl, Maps.has D kl = true → ∃ x : Nat, x < N ∧ kl = ky x
  at_ : ∀ x : Nat, x < N → D.atKey (ky x) (.lit (.int .i64 0)) = .lit (.int .i64 (f x))
theorem CMap.empty (N : Nat) : CMap N (.map []) fun _ => 0 :=
  ⟨Maps.isMap_empty, fun kl h => by simp [Maps.has] at h, fun x _ => Maps.atKey_of_not_has (by simp [Maps.has]) _⟩
theorem CMap.put {N : Nat} {D : DataW Unit} {f : Nat → Int} (h : CMap N D f) {x : Nat} (hx : x < N) (v : Int) : CMap N (D.put (ky x) (.lit (.int .i64 v))) (upd f x v) := by
  refine ⟨h.map.put _ _, fun kl hk => ?_, fun y hy => ?_⟩
  · by_cases e : kl = ky x
    · exact ⟨x, hx, e⟩
    · rw [Maps.has_put_other e] at hk
      exact h.key kl hk
  · unfold upd
    by_cases e : y = x
    · subst e
      rw [Maps.atKey_put_same h.map (ky_is y), if_pos rfl]
    · rw [Maps.atKey_put_other (ky_ne e), if_neg e, h.at_ y hy]
theorem CMap.zero {N : Nat} {D : DataW Unit} {f : Nat → Int} (h : CMap N D f) {x : Nat} (hx : x < N) (hn : Maps.has D (ky x) = false) : f x = 0 := by
  have h1 := h.at_ x hx
  rw [Maps.atKey_of_not_has hn] at h1
  simp only [DataW.lit.injEq, Lit.int.injEq, true_and] at h1
  exact h1.symm
theorem CMap.val {N : Nat} {D : DataW Unit} {f : Nat → Int} (h : CMap N D f) {x : Nat} {c : Int} (hx : x < N) (hat : ∀ zd, D.atKey (ky x) zd = .lit (.int .i64 c)) : c = f x := by
  have h1 := h.at_ x hx
  rw [hat] at h1
  simp only [DataW.lit.injEq, Lit.int.injEq, true_and] at h1
  exact h1
theorem CMap.look {N : Nat} {D : DataW Unit} {f : Nat → Int} (h : CMap N D f) {x : Nat} {c : Int} (hx : x < N) (hat : D.atKey (ky x) (.lit (.int .i64 0)) = .lit (.int .i64 c)) : c = f x := by
  rw [h.at_ x hx] at hat
  simp only [DataW.lit.injEq, Lit.int.injEq, true_and] at hat
  exact hat.symm
/-- the value of the entries that have come out -/
def doneS (N : Nat) (left : Lit → Bool) (f : Nat → Int) (E : Nat → Nat) : Int := sm (fun k => if left (ky k) then 0 else f k * (E k : Int)) N
theorem done_start {N : Nat} {D : DataW Unit} {f : Nat → Int} (h : CMap N D f) (E : Nat → Nat) : doneS N (Maps.has D) f E = 0 := by
  refine (sm_congr fun k hk => ?_).trans (sm_zero N)
  split
  · rfl
  · rename_i hn
    rw [h.zero hk (by simpa using hn), Int.zero_mul]
theorem sm_add1 {g h : Nat → Int} {x : Nat} {d : Int} (hx : g x = h x + d) (ho : ∀ k, k ≠ x → g k = h k) : ∀ n, sm g n = sm h n + if x < n then d else 0
  | 0 => by simp [sm]
  | n + 1 => by
    rw [sm, sm, sm_add1 hx ho n]
    by_cases h1 : x < n
    · rw [if_pos h1, if_pos (by omega), ho n (by omega)]; omega
    · by_cases h2 : n = x
      · subst h2; rw [if_neg h1, if_pos (by omega), hx]; omega
      · rw [if_neg h1, if_neg (by omega), ho n h2]; omega
theorem ky_same (x y : Nat) : (ky y).sameKey (ky x) = decide (y = x) := by
  by_cases e : y = x
  · subst e; rw [WideAt.sameKey_self (ky_is y)]; simp
  · rw [Maps.sameKey_ne (ky_ne e)]; simp [e]
theorem done_step {N : Nat} {left : Lit → Bool} {f : Nat → Int} {E : Nat → Nat} {x : Nat} (hx : x < N) (hl : left (ky x) = true) :
    doneS N (fun z => left z && !z.sameKey (ky x)) f E = doneS N left f E + f x * (E x : Int) := by
  rw [doneS, doneS, sm_add1 (x := x) (d := f x * (E x : Int)) (h := fun k => if left (ky k) then 0 else f k * (E k : Int)) ?_ ?_ N, if_pos hx]
  · simp only [ky_same, decide_true, Bool.not_true, Bool.and_false, Bool.false_eq_true, if_false, hl, if_true]; omega
  · intro k hk
    simp only [ky_same, hk, decide_false, Bool.not_false, Bool.and_true]
theorem done_end {N : Nat} {left : Lit → Bool} {f : Nat → Int} {E : Nat → Nat} (h : ∀ kl, left kl = false) : doneS N left f E = sm (fun k => f k * (E k : Int)) N := by
  rw [doneS]
  refine sm_congr fun k _ => ?_
  rw [h]; rfl
theorem Held.beside {W0 w w' : World} {L : List Row} {B : Nat} (H : Held W0 w L) (hg : w.grownBy w' (some B)) (hB : W0.heap.size ≤ B) (hne : ∀ r ∈ L, r.v.ownBlock ≠ some B) : Held W0 w' L :=
  ⟨H.bel.grown hg H.le (fun k hk => by cases hk; exact hB), fun r hr => (H.own r hr).kept hg (.inr (hne r hr)), H.apart⟩
theorem Held.sameB {W0 w w' : World} {L : List Row} (H : Held W0 w L) (hg : w.grownBy w' none) : Held W0 w' L :=
  ⟨H.bel.grown hg H.le (fun k hk => by cases hk), fun r hr => (H.own r hr).kept hg (by cases h : r.v.ownBlock <;> simp), H.apart⟩
theorem wpList_insert_own {H : Type} {P : Program} (w : World) {ops : Array Oper} {rest : List Oper} {o : Oper} {a : Act} {Q : Exit → Act → World → Prop}
    (hg : o.guard = none) (m x v : Operand) (t : TypeId) (hop : o.op = Op.insert t m x v)
    (k e : TypeId) (K : Maps.Keyed P k) (ht : P.underlying t = some (.map k e)) (R : Value → Option (DataW H × List MemPlace)) (b n : Nat) (D : DataW H)
    (hm : a.eval m = .map (some b)) (hown : w.ownsMap P k R b n D) (hn : n < maxLen) (key val : Value) (kl : Lit) (hx : a.eval x = key) (hv : a.eval v = val) (hkey : keyOf P k key = some kl)
    (d : DataW H) (ps : List MemPlace) (hval : R val = some (d, ps))
    (hK : ∀ w', w'.ownsMap P k R b (n + 1) (D.put kl d) → w.grownBy w' (some b) → wpList P ops Q rest (a.put o.dst undef) w') :
    wpList P ops Q (o :: rest) a w := by
  refine wpList_plain hg fun K' hK' => ?_
  obtain ⟨w', hrun, r1, r2⟩ := hown.update K ht hn hkey hval
  unfold Oper.wp
  simp [execOp, hop, hm, hx, hv, hrun, Result.andThen]
  exact hK' _ _ (hK w' r1 r2)
theorem keyI : Maps.Keyed Try.prog 3 := Maps.int_keyed Try.underlying3
theorem zeroI (w : World) : (zeroValue 3).run Try.prog w = .ok (.int .i64 0) w := by kernel_rfl
abbrev OwnsC (w : World) (B n : Nat) (D : DataW Unit) : Prop := w.ownsMap Try.prog 3 (plainElem Try.prog 3) B n D
theorem ky_wf {x : Nat} (h : x < 9223372036854775808) : (Lit.int .i64 (x : Int)).wf = true := by simp [Lit.wf, IntKind.min, IntKind.max, IntKind.signed, IntKind.bits]; omega
theorem ky_of {x : Nat} (h : x < 9223372036854775808) : keyOf Try.prog 3 (.int .i64 (x : Int)) = some (ky x) := Maps.keyOf_int_mk Try.underlying3 (ky_wf h)
theorem el_of (v : Int) : plainElem (H := Unit) Try.prog 3 (.int .i64 (wrap64 v)) = some (.lit (.int .i64 (wrap64 v)), []) := plainElem_int Try.underlying3 (wrap64_wf v)
theorem grown_ext {w w' : World} (h : ∃ x, w' = ext w x) : w.grownBy w' none := by
  obtain ⟨x, rfl⟩ := h
  exact ⟨rfl, rfl, rfl, by rw [size_ext]; omega, fun k hk _ => heap_ext w x hk⟩
theorem ky_zero : keyOf Try.prog 3 (.int .i64 0) = some (ky 0) := ky_of (x := 0) (by omega)
theorem el_one : plainElem (H := Unit) Try.prog 3 (.int .i64 1) = some (.lit (.int .i64 1), []) := plainElem_int Try.underlying3 (by decide)
theorem own_size {w : World} {B n : Nat} {D : DataW Unit} (h : OwnsC w B n D) : Maps.size D ≤ n := by
  obtain ⟨es, clock, _, _, hs, rfl⟩ := h
  rw [Maps.size_eq, length_sorted]; simpa using hs
theorem made_owns (w : World) : OwnsC (w.alloc (.map #[] 0)) w.heap.size 0 (.map []) := World.ownsMap_made _ _ _ _
end
section
open Go.ChangeShapes Go.WideShapes Go.ChangeAt Go.RowKit
def fillS (w full out : Nat) : Nat → Int
  | 0 => 1
  | 1 => if full.testBit (w - 1) then (if out.testBit (w - 1) then 0 else 1) else if out.testBit (w - 1) then 1 else 0
  | r + 2 =>
    if full.testBit (w - (r + 2)) then (if out.testBit (w - (r + 2)) then 0 else fillS w full out (r + 1))
    else if out.testBit (w - (r + 2)) then fillS w full out (r + 1)
    else if full.testBit (w - (r + 2) + 1) then 0 else if out.testBit (w - (r + 2) + 1) then 0 else fillS w full out r
theorem fillS_ff {w full out r x : Nat} (hx : w - (r + 1) = x) (h : full.testBit x = true) (h2 : out.testBit x = true) : fillS w full out (r + 1) = 0 := by
  subst hx; cases r <;> simp [fillS, h, h2]
theorem fillS_f {w full out r x : Nat} (hx : w - (r + 1) = x) (h : full.testBit x = true) (h2 : out.testBit x = false) : fillS w full out (r + 1) = fillS w full out r := by
  subst hx; cases r <;> simp [fillS, h, h2]
theorem fillS_o {w full out r x : Nat} (hx : w - (r + 1) = x) (h : full.testBit x = false) (h2 : out.testBit x = true) : fillS w full out (r + 1) = fillS w full out r := by
  subst hx; cases r <;> simp [fillS, h, h2]
theorem fillS_one {w full out x : Nat} (hx : w - (0 + 1) = x) (h : full.testBit x = false) (h2 : out.testBit x = false) : fillS w full out (0 + 1) = 0 := by
  subst hx; simp [fillS, h, h2]
theorem fillS_no {w full out r x : Nat} (hx : w - (r + 1 + 1) = x) (h : full.testBit x = false) (h2 : out.testBit x = false) (h3 : full.testBit (x + 1) = true) : fillS w full out (r + 1 + 1) = 0 := by
  subst hx; simp [fillS, h, h2, h3]
theorem fillS_no2 {w full out r x : Nat} (hx : w - (r + 1 + 1) = x) (h : full.testBit x = false) (h2 : out.testBit x = false) (h4 : out.testBit (x + 1) = true) : fillS w full out (r + 1 + 1) = 0 := by
  subst hx; simp [fillS, h, h2, h4]
theorem fillS_two {w full out r x : Nat} (hx : w - (r + 1 + 1) = x) (h : full.testBit x = false) (h2 : out.testBit x = false) (h3 : full.testBit (x + 1) = false) (h4 : out.testBit (x + 1) = false) : fillS w full out (r + 1 + 1) = fillS w full out r := by
  subst hx; simp [fillS, h, h2, h3, h4]
theorem l11_next {x : Nat} {w u d : Value} {W : World} {Q : Ending → World → Prop} (h : Calls Try.prog 69 #[w, .int .i64 ((x + 1 : Nat) : Int), u, d] W Q) : Calls Try.prog 69 #[w, .int .i64 ((x : Int) + 1), u, d] W Q := h
theorem l11_next2 {x : Nat} {w u d : Value} {W : World} {Q : Ending → World → Prop} (h : Calls Try.prog 69 #[w, .int .i64 ((x + 2 : Nat) : Int), u, d] W Q) : Calls Try.prog 69 #[w, .int .i64 ((x : Int) + 2), u, d] W Q := h
set_option maxHeartbeats 2000000 in
theorem l11Fill_any (wd full out : Nat) [Lt63 full] [Lt63 out] (hw : wd ≤ 6) : ∀ (r x : Nat) (w : World), x + r = wd →
    Calls Try.prog 69 #[.int .i64 wd, .int .i64 x, .int .i64 full, .int .i64 out] w fun e w' => e = .returned (.int .i64 (fillS wd full out r)) ∧ ∃ x, w' = ext w x := by
  intro r
  induction r using Nat.strongRecOn with
  | ind r ih =>
    intro x w hx
    cases r with
    | zero =>
      obtain rfl : x = wd := by omega
      go_enter Try.func69, Try.ntmps69
      go_wp2_with fail
      go_ret
      exact ⟨rfl, (by repeat (first | exact ext_refl _ | (with_reducible assumption) | refine ext_ext' ?_ _ | refine ext_alloc' ?_ _ | refine ext_drew' ?_))⟩
    | succ r =>
      have hlt : x < wd := by omega
      have hx6 : x ≤ 6 := by omega
      have hne : ((x : Int) == wd) = false := beq_eq_false_iff_ne.2 (by omega)
      have hbt := bit_test full x
      have hbo := bit_test out x
      haveI : Le64 x := ⟨by omega⟩
      haveI : Le64 (x + 1) := ⟨by omega⟩
      have hX : wd - (r + 1) = x := by omega
      have IH := Lib.hid fun w => l11_next (ih r (by omega) (x + 1) w (by omega))
      have IH2 := Lib.hid fun (s : Nat) (hs : r = s + 1) w => l11_next2 (ih s (by omega) (x + 2) w (by omega))
      cases hf : full.testBit x
      all_goals
        cases ho : out.testBit x
        all_goals
          rw [hf] at hbt
          rw [ho] at hbo
      · cases r with
        | zero =>
          have hx1 : decide ((x : Int) + 1 < wd) = false := decide_eq_false (by omega)
          have HF := Lib.hid (fillS_one hX hf ho)
          clear hf ho hX hx
          go_enter Try.func69, Try.ntmps69
          go_wp2_with fail
          go_ret
          exact ⟨ret_int HF.out.symm, (by repeat (first | exact ext_refl _ | (with_reducible assumption) | refine ext_ext' ?_ _ | refine ext_alloc' ?_ _ | refine ext_drew' ?_))⟩
        | succ r =>
          have hx1 : decide ((x : Int) + 1 < wd) = true := decide_eq_true (by omega)
          have hbt2 := bit_test0 full (x + 1)
          have hbo2 := bit_test0 out (x + 1)
          cases hf2 : full.testBit (x + 1)
          · rw [hf2] at hbt2
            cases ho2 : out.testBit (x + 1)
            · rw [ho2] at hbo2
              have HF := Lib.hid (fillS_two hX hf ho hf2 ho2)
              clear hf ho hX hx hf2 ho2
              go_enter Try.func69, Try.ntmps69
              go_wp2_with (first | (go_at_call 69; refine (IH2.out r rfl _).mono ?_; rintro e w' ⟨rfl, xe, rfl⟩))
              go_ret
              exact ⟨ret_int HF.out.symm, (by repeat (first | exact ext_refl _ | (with_reducible assumption) | refine ext_ext' ?_ _ | refine ext_alloc' ?_ _ | refine ext_drew' ?_))⟩
            · rw [ho2] at hbo2
              have HF := Lib.hid (fillS_no2 hX hf ho ho2)
              clear hf ho hX hx hf2 ho2
              go_enter Try.func69, Try.ntmps69
              go_wp2_with fail
              go_ret
              exact ⟨ret_int HF.out.symm, (by repeat (first | exact ext_refl _ | (with_reducible assumption) | refine ext_ext' ?_ _ | refine ext_alloc' ?_ _ | refine ext_drew' ?_))⟩
          · rw [hf2] at hbt2
            have HF := Lib.hid (fillS_no hX hf ho hf2)
            clear hf ho hX hx hf2
            go_enter Try.func69, Try.ntmps69
            go_wp2_with fail
            go_ret
            exact ⟨ret_int HF.out.symm, (by repeat (first | exact ext_refl _ | (with_reducible assumption) | refine ext_ext' ?_ _ | refine ext_alloc' ?_ _ | refine ext_drew' ?_))⟩
      · have HF := Lib.hid (fillS_o hX hf ho)
        clear hf ho hX hx
        go_enter Try.func69, Try.ntmps69
        go_wp2_with (first | (go_at_call 69; refine (IH.out _).mono ?_; rintro e w' ⟨rfl, xe, rfl⟩))
        go_ret
        exact ⟨ret_int HF.out.symm, (by repeat (first | exact ext_refl _ | (with_reducible assumption) | refine ext_ext' ?_ _ | refine ext_alloc' ?_ _ | refine ext_drew' ?_))⟩
      · have HF := Lib.hid (fillS_f hX hf ho)
        clear hf ho hX hx
        go_enter Try.func69, Try.ntmps69
        go_wp2_with (first | (go_at_call 69; refine (IH.out _).mono ?_; rintro e w' ⟨rfl, xe, rfl⟩))
        go_ret
        exact ⟨ret_int HF.out.symm, (by repeat (first | exact ext_refl _ | (with_reducible assumption) | refine ext_ext' ?_ _ | refine ext_alloc' ?_ _ | refine ext_drew' ?_))⟩
      · have HF := Lib.hid (fillS_ff hX hf ho)
        clear hf ho hX hx
        go_enter Try.func69, Try.ntmps69
        go_wp2_with fail
        go_ret
        exact ⟨ret_int HF.out.symm, (by repeat (first | exact ext_refl _ | (with_reducible assumption) | refine ext_ext' ?_ _ | refine ext_alloc' ?_ _ | refine ext_drew' ?_))⟩
theorem l11Fill_top (wd full out : Nat) [Lt63 full] [Lt63 out] (hw : wd ≤ 6) (w : World) :
    Calls Try.prog 69 #[.int .i64 wd, .int .i64 0, .int .i64 full, .int .i64 out] w fun e w' => e = .returned (.int .i64 (fillS wd full out wd)) ∧ ∃ x, w' = ext w x := l11Fill_any wd full out hw wd 0 w (by omega)
def rowDS (wd a : Nat) : List Int := (List.range (2 ^ wd)).map fun b => fillS wd a b wd
theorem ways_eq : ∀ wd, wd < 5 → ∀ a, a < 2 ^ wd → waysTo wd a = rowDS wd a := by decide +kernel
end
section
open Go.ChangeShapes Go.WideShapes Go.ChangeAt Go.RowKit
def matTo (wd k : Nat) : List (List Int) := (List.range k).map (waysTo wd)
theorem matTo_len (wd k : Nat) : (matTo wd k).length = k := by simp [matTo]
theorem matTo_succ (wd k : Nat) : matTo wd (k + 1) = matTo wd k ++ [waysTo wd k] := by simp [matTo, List.range_succ]
def matV (wd : Int) : Option (List (List Int)) := if btw wd 1 4 then some (matTo wd.toNat (shlN 1 wd.toNat)) else none
theorem matV_no {wd : Int} (h : btw wd 1 4 = false) : matV wd = none := by simp [matV, h]
theorem matV_yes {n : Nat} (h : btw n 1 4 = true) : matV n = some (matTo n (shlN 1 n)) := by simp [matV, h]
theorem shl6 {wd : Nat} (hw : wd ≤ 6) : shlN 1 wd ≤ 64 := by rw [shlN, Nat.one_mul]; exact pow6 hw
theorem shl_pow (wd : Nat) : shlN 1 wd = 2 ^ wd := by rw [shlN, Nat.one_mul]
theorem waysTo_len (wd a : Nat) : (waysTo wd a).length = 2 ^ wd := tab_len _ _
set_option maxHeartbeats 1000000 in
theorem implMat_any (wd : Int) (w : World) : Calls Try.prog 30 #[.int .i64 wd] w (RowsPost w (matV wd)) := by
  cases hb : btw wd 1 4
  · have HF := Lib.hid (matV_no hb)
    go_enter Try.func30, Try.ntmps30
    go_wp2_with (first | (go_at_call 65; refine (between_b _ _ _ _ hb _).mono ?_; rintro e w' ⟨rfl, xe, rfl⟩))
    go_ret2
    exact .fail HF.out (by repeat (first | exact ext_refl _ | (with_reducible assumption) | refine ext_ext' ?_ _ | refine ext_alloc' ?_ _ | refine ext_drew' ?_))
  obtain ⟨b1, b2⟩ := btw_iff.1 hb
  obtain ⟨n, rfl⟩ : ∃ n : Nat, wd = n := ⟨wd.toNat, by omega⟩
  haveI : Le6 n := ⟨by omega⟩
  have hn6 : n ≤ 6 := by omega
  have HF := Lib.hid (matV_yes hb)
  have hlen := shl6 hn6
  go_enter Try.func30, Try.ntmps30
  go_wp2_with (first | (go_at_call 65; refine (between_b _ _ _ _ hb _).mono ?_; rintro e w' ⟨rfl, xe, rfl⟩))
  go_loopw [4, 11] (fun u i wr => ∃ (v : Value) (k : Nat) (vs : List Value), v = u ∧ k ≤ shlN 1 n ∧ i = .int .i64 k ∧ vs.length = k ∧ Held w wr (grpR v vs (matTo n k) ++ [])) (fun _ i _ => shlN 1 n - (intOf i).toNat)
  case atStart => exact ⟨_, 0, [], rfl, Nat.zero_le _, rfl, rfl, ((Held.start w).to (by repeat (first | exact ext_refl _ | (with_reducible assumption) | refine ext_ext' ?_ _ | refine ext_alloc' ?_ _ | refine ext_drew' ?_))).nilR⟩
  case round =>
    obtain ⟨v, k, vs, rfl, hk, rfl, hvl, H⟩ := hrel
    have HV := Lib.hid (show vs.length = (matTo n k).length by rw [matTo_len, hvl])
    have HVK := Lib.hid hvl
    clear hvl
    by_cases hlt : k < shlN 1 n
    · haveI : Lt63 k := ⟨by omega⟩
      go_wp2_with (first | (go_at_call 56; refine (dominoWays_any _ _ hn6 _).mono ?_; rintro e w' ⟨v', rfl, H2⟩; obtain ⟨ua, uc, rfl⟩ := H2.rowV; have HR := Lib.hid ((H.join H2).pull 1 rfl); clear H H2) | (at_builtin; refine wpList_append_held rfl _ _ _ rfl elemInts (HR.out.to (by repeat (first | exact ext_refl _ | (with_reducible assumption) | refine ext_ext' ?_ _ | refine ext_alloc' ?_ _ | refine ext_drew' ?_))) rfl rfl (Sl_new1 _ _ _) (one_row _ _ _) (by rw [matTo_len]; unfold maxLen; omega) (by rw [matTo_len]; omega) ?_; intro v' w' H))
      go_roundw
      case rel =>
        refine ⟨v', k + 1, vs ++ [.slice ua (waysTo n k).length uc], rfl, hlt, int_succ k, by simp [HVK.out], ?_⟩
        rw [matTo_succ]
        refine Held.snocR HV.out ?_
        exact H
      case measure => simp [intOf]; omega
    · rw [show k = shlN 1 n by omega] at H
      have HH := Lib.hid H
      have HK := Lib.hid (show k = shlN 1 n by omega)
      clear H
      go_wp2_with fail
      go_ret2
      have H := HH.out
      rw [List.append_nil] at H
      exact .got HF.out (by have h := HV.out; rw [h, matTo_len, matTo_len, HK.out]) H
def rowTo (wd a k : Nat) : List Int := (List.range k).map fun b => fillS wd a b wd
theorem rowTo_len (wd a k : Nat) : (rowTo wd a k).length = k := by simp [rowTo]
theorem rowTo_succ (wd a k : Nat) : rowTo wd a (k + 1) = rowTo wd a k ++ [fillS wd a k wd] := by simp [rowTo, List.range_succ]
theorem rowTo_all {n k : Nat} (h4 : n ≤ 4) (hk : k < shlN 1 n) : rowTo n k (shlN 1 n) = waysTo n k := by
  rw [shl_pow] at hk ⊢
  exact (ways_eq n (by omega) k hk).symm
set_option maxHeartbeats 2000000 in
theorem specMat_any (wd : Int) (w : World) : Calls Try.prog 31 #[.int .i64 wd] w (RowsPost w (matV wd)) := by
  cases hb : btw wd 1 4
  · have HF := Lib.hid (matV_no hb)
    go_enter Try.func31, Try.ntmps31
    go_wp2_with (first | (go_at_call 67; refine (l1In_b _ _ _ _ hb _).mono ?_; rintro e w' ⟨rfl, xe, rfl⟩))
    go_ret2
    exact .failE HF.out (((Held.start w).empty _ _).to (by repeat (first | exact ext_refl _ | (with_reducible assumption) | refine ext_ext' ?_ _ | refine ext_alloc' ?_ _ | refine ext_drew' ?_)))
  obtain ⟨b1, b2⟩ := btw_iff.1 hb
  obtain ⟨n, rfl⟩ : ∃ n : Nat, wd = n := ⟨wd.toNat, by omega⟩
  haveI : Le6 n := ⟨by omega⟩
  have hn6 : n ≤ 6 := by omega
  have HF := Lib.hid (matV_yes hb)
  have hlen := shl6 hn6
  go_enter Try.func31, Try.ntmps31
  go_wp2_with (first | (go_at_call 67; refine (l1In_b _ _ _ _ hb _).mono ?_; rintro e w' ⟨rfl, xe, rfl⟩))
  go_loopw [4, 5] (fun u i wr => ∃ (v : Value) (k : Nat) (vs : List Value), v = u ∧ k ≤ shlN 1 n ∧ i = .int .i64 k ∧ vs.length = k ∧ Held w wr (grpR v vs (matTo n k) ++ [])) (fun _ i _ => shlN 1 n - (intOf i).toNat)
  case atStart => exact ⟨_, 0, [], rfl, Nat.zero_le _, rfl, rfl, (((Held.start w).empty _ _).to (by repeat (first | exact ext_refl _ | (with_reducible assumption) | refine ext_ext' ?_ _ | refine ext_alloc' ?_ _ | refine ext_drew' ?_))).grp0⟩
  case round =>
    obtain ⟨v, k, vs, rfl, hk, rfl, hvl, H⟩ := hrel
    have HV := Lib.hid (show vs.length = (matTo n k).length by rw [matTo_len, hvl])
    have HVK := Lib.hid hvl
    clear hvl
    by_cases hlt : k < shlN 1 n
    · haveI : Lt63 k := ⟨by omega⟩
      have H0 := Lib.hid (H.empty 3 1)
      clear H
      go_wp2_with fail
      go_loopw [6, 7] (fun u i wr2 => ∃ (r : Value) (q : Nat), r = u ∧ q ≤ shlN 1 n ∧ i = .int .i64 q ∧ Held w wr2 (rowI r (rowTo n k q) :: (grpR v vs (matTo n k) ++ []))) (fun _ i _ => shlN 1 n - (intOf i).toNat)
      case atStart => exact ⟨_, 0, rfl, Nat.zero_le _, rfl, H0.out⟩
      case round =>
        clear H0
        obtain ⟨r, q, rfl, hq, rfl, H⟩ := hrel
        by_cases hlt2 : q < shlN 1 n
        · haveI : Lt63 q := ⟨by omega⟩
          go_wp2_with (first | (go_at_call 69; refine (l11Fill_top _ _ _ hn6 _).mono ?_; rintro e w' ⟨rfl, xe, rfl⟩) | (at_builtin; refine wpList_append_held (m := 1) rfl _ _ _ rfl elemInt (H.to (by repeat (first | exact ext_refl _ | (with_reducible assumption) | refine ext_ext' ?_ _ | refine ext_alloc' ?_ _ | refine ext_drew' ?_))) rfl rfl (Sl_new1 _ _ _) (one_lit _) (by rw [rowTo_len]; unfold maxLen; omega) (by rw [rowTo_len]; omega) ?_; intro v' w' H; have H := H.snoc))
          go_roundw
          case rel =>
            refine ⟨v', q + 1, rfl, hlt2, int_succ q, ?_⟩
            rw [rowTo_succ]
            exact H
          case measure => simp [intOf]; omega
        · rw [show q = shlN 1 n by omega, rowTo_all (by omega) hlt] at H
          obtain ⟨ua, uc, rfl⟩ := H.rowV
          have HR := Lib.hid (H.pull 1 rfl)
          clear H
          go_wp2_with (first | (at_builtin; refine wpList_append_held rfl _ _ _ rfl elemInts (HR.out.to (by repeat (first | exact ext_refl _ | (with_reducible assumption) | refine ext_ext' ?_ _ | refine ext_alloc' ?_ _ | refine ext_drew' ?_))) rfl rfl (Sl_new1 _ _ _) (one_row _ _ _) (by rw [matTo_len]; unfold maxLen; omega) (by rw [matTo_len]; omega) ?_; intro v' w' H))
          go_roundw
          case rel =>
            refine ⟨v', k + 1, vs ++ [.slice ua (waysTo n k).length uc], rfl, hlt, int_succ k, by simp [HVK.out], ?_⟩
            rw [matTo_succ]
            refine Held.snocR HV.out ?_
            exact H
          case measure => simp [intOf]; omega
    · rw [show k = shlN 1 n by omega] at H
      have HH := Lib.hid H
      have HK := Lib.hid (show k = shlN 1 n by omega)
      clear H
      go_wp2_with fail
      go_ret2
      have H := HH.out
      rw [List.append_nil] at H
      exact .got HF.out (by have h := HV.out; rw [h, matTo_len, matTo_len, HK.out]) H
end
section
open Go.ChangeShapes Go.WideShapes Go.ChangeAt Go.RowKit
def ssB (wd : Nat) (c : Int) (a : Nat) (g : Nat → Int) : Nat → Nat → Int := iter (fun b g => upd g b (wrap64 (g b + wrap64 (c * dW wd a b)))) g
theorem ssB_succ (wd : Nat) (c : Int) (a : Nat) (g : Nat → Int) (b : Nat) : ssB wd c a g (b + 1) = upd (ssB wd c a g b) b (wrap64 (ssB wd c a g b b + wrap64 (c * dW wd a b))) := rfl
def ssA (wd : Nat) (f : Nat → Int) : Nat → Nat → Int := iter (fun a g => ssB wd (f a) a g (shlN 1 wd)) fun _ => 0
theorem ssA_succ (wd : Nat) (f : Nat → Int) (a : Nat) : ssA wd f (a + 1) = ssB wd (f a) a (ssA wd f a) (shlN 1 wd) := rfl
def ssN (wd : Nat) : Nat → Nat → Int := iter (fun _ f => ssA wd f (shlN 1 wd)) (upd (fun _ => 0) 0 1)
theorem ssN_succ (wd n : Nat) : ssN wd (n + 1) = ssA wd (ssN wd n) (shlN 1 wd) := rfl
theorem shl_pos (wd : Nat) : 0 < shlN 1 wd := by rw [shl_pow]; exact Nat.two_pow_pos _
set_option maxHeartbeats 2000000 in
theorem stripCount_any (n m : Nat) (hn6 : n ≤ 6) (hm : m ≤ 16) (w : World) : Calls Try.prog 66 #[.int .i64 n, .int .i64 m] w fun e w' => e = .returned (.int .i64 (ssN n m 0)) ∧ ∃ x, w' = ext w x := by
  haveI : Le6 n := ⟨hn6⟩
  have hlen := shl6 hn6
  have hpos := shl_pos n
  obtain ⟨N, hN⟩ : ∃ N, N = shlN 1 n := ⟨_, rfl⟩
  have HN2 := Lib.hid (hN.trans (shl_pow n))
  have HN := Lib.hid hN
  have hsh : ((shlN 1 n : Nat) : Int) = ((N : Nat) : Int) := by rw [hN]
  have HS := Lib.hid hsh
  rw [← hN] at hlen hpos
  clear hsh hN
  go_enter Try.func66, Try.ntmps66
  go_wp2_with (first | (at_make; refine wpList_make_held rfl _ _ _ rfl elemInt (Held.start w) .i64 .i64 _ _ N rfl rfl HS.out HS.out (by omega) (by unfold maxLen; omega) ?_; intro w1 H1; have H := H1.zeros; clear H1; obtain ⟨k1, k2⟩ := H.cellRow hpos; have HH := Lib.hid (H.storeRow 0 1); clear H))
  go_loopw [5, 17] (fun u i wr => ∃ (g j : Nat), u = .slice (some ⟨g, 0, none⟩) N N ∧ j ≤ m ∧ i = .int .i64 j ∧ Held w wr [rowT g N (ssN n j)]) (fun _ i _ => m - (intOf i).toNat)
  case atStart => exact ⟨_, 0, rfl, Nat.zero_le _, rfl, HH.out⟩
  case round =>
    clear HH k1 k2
    obtain ⟨g, j, rfl, hj, rfl, H⟩ := hrel
    by_cases hlt : j < m
    · go_wp2_with (first | (at_make; refine wpList_make_held rfl _ _ _ rfl elemInt H .i64 .i64 _ _ N rfl rfl HS.out HS.out (by omega) (by unfold maxLen; omega) ?_; intro w2 H1))
      have H2 := H1.zeros
      clear H1 H
      generalize wr.heap.size = g2 at H2 ⊢
      go_loopw [24] (fun i wr2 => ∃ a : Nat, a ≤ N ∧ i = .int .i64 a ∧ Held w wr2 [rowT g2 N (ssA n (ssN n j) a), rowT g N (ssN n j)]) (fun i _ => N - (intOf i).toNat)
      case atStart => exact ⟨0, Nat.zero_le _, rfl, H2⟩
      case round =>
        clear H2
        obtain ⟨a, ha, rfl, H⟩ := hrel
        by_cases hlt2 : a < N
        · haveI : Lt63 a := ⟨by omega⟩
          obtain ⟨k1, k2⟩ := (H.pull 1 rfl).cellRow hlt2
          clear k2
          go_wp2_with (first | (go_at_call 56; refine (dominoWays_row _ _ N hn6 HN2.out _).mono ?_; rintro e w' ⟨gw, rfl, H2⟩; have HR := Lib.hid ((H.join H2).pull 1 rfl); clear H H2 k1))
          have H2 := HR.out
          clear HR
          go_loopw [33] (fun i wr3 => ∃ b : Nat, b ≤ N ∧ i = .int .i64 b ∧ Held w wr3 [rowT g2 N (ssB n (ssN n j a) a (ssA n (ssN n j) a) b), rowT gw N (dW n a), rowT g N (ssN n j)]) (fun i _ => N - (intOf i).toNat)
          case atStart => exact ⟨0, Nat.zero_le _, rfl, H2⟩
          case round =>
            clear H2
            obtain ⟨b, hb, rfl, H⟩ := hrel
            by_cases hlt3 : b < N
            · obtain ⟨k1, k2⟩ := H.cellRow hlt3
              obtain ⟨k3, k4⟩ := (H.pull 1 rfl).cellRow hlt3
              have H3 := Lib.hid fun x => H.storeRow b x
              clear H k4
              go_wp2_with fail
              go_roundw
              case rel => exact ⟨b + 1, hlt3, int_succ b, by rw [ssB_succ]; exact H3.out _⟩
              case measure => simp [intOf]; omega
            · rw [show b = N by omega] at H
              have HH := Lib.hid (H.pull 1 rfl).drop
              clear H
              go_wp2_with fail
              go_roundw
              case rel => exact ⟨a + 1, hlt2, int_succ a, by rw [ssA_succ, ← HN.out]; exact HH.out⟩
              case measure => simp [intOf]; omega
        · rw [show a = N by omega] at H
          have HH := Lib.hid H.first
          clear H
          go_wp2_with fail
          go_roundw
          case rel => exact ⟨g2, j + 1, rfl, hlt, int_succ j, by rw [ssN_succ, ← HN.out]; exact HH.out⟩
          case measure => simp [intOf]; omega
    · rw [show j = m by omega] at H
      obtain ⟨k1, k2⟩ := H.cellRow hpos
      have HX := Lib.hid (ext_of H.bel)
      clear H k2
      go_wp2_with fail
      go_ret
      exact ⟨rfl, HX.out⟩
end
section
open Go.ChangeShapes Go.WideShapes Go.ChangeAt Go.RowKit
open Go.Maps
def RowOK (W : Nat) (rows : List Int) (f : Nat → Int) (y : Nat) : Prop := Cg (sm (fun s => f s * (domE W rows (rows.length - y) s : Int)) (2 ^ W)) (domV W rows : Int)
theorem row_start (W : Nat) (rows : List Int) : RowOK W rows (upd (fun _ => 0) 0 1) 0 := by
  unfold RowOK
  have hp := Nat.two_pow_pos W
  rw [sm_upd, if_pos hp, (sm_congr fun k _ => Int.zero_mul _).trans (sm_zero _)]
  simp only [domV, Nat.sub_zero]
  exact ⟨0, by omega⟩
theorem row_end {W : Nat} {rows : List Int} {f : Nat → Int} (h : RowOK W rows f rows.length) : Cg (f 0) (domV W rows : Int) := by
  unfold RowOK at h
  have e : sm (fun s => f s * (domE W rows (rows.length - rows.length) s : Int)) (2 ^ W) = f 0 := by
    rw [← sm_pick f (Nat.two_pow_pos W), Nat.sub_self]
    refine sm_congr fun s _ => ?_
    simp only [domE]
    split <;> rfl
  rwa [e] at h
/-- a row under way: what has come out of the old counts is in the new ones -/
def GoOK (W : Nat) (rows : List Int) (f g : Nat → Int) (left : Lit → Bool) (y : Nat) : Prop :=
  Cg (sm (fun s => g s * (domE W rows (rows.length - (y + 1)) s : Int)) (2 ^ W)) (doneS (2 ^ W) left f (domE W rows (rows.length - y)))
theorem go_start {W : Nat} {rows : List Int} {f : Nat → Int} {D : DataW Unit} (h : CMap (2 ^ W) D f) (y : Nat) : GoOK W rows f (fun _ => 0) (Maps.has D) y := by
  unfold GoOK
  rw [done_start h, (sm_congr fun k _ => Int.zero_mul _).trans (sm_zero _)]
  exact Cg.refl 0
theorem go_end {W : Nat} {rows : List Int} {f g : Nat → Int} {left : Lit → Bool} {y : Nat} (h0 : RowOK W rows f y) (h : GoOK W rows f g left y) (hl : ∀ kl, left kl = false) : RowOK W rows g (y + 1) := by
  unfold GoOK at h
  rw [done_end hl] at h
  exact h.trans h0
theorem dom_row {W : Nat} {rows : List Int} {y x : Nat} (hy : y < rows.length) : domE W rows (rows.length - y) x = if subN x (rowN rows y) then ph W (usedN W x (rowN rows y)) (domE W rows (rows.length - (y + 1))) W 0 else 0 := by
  obtain ⟨k, hk⟩ : ∃ k, rows.length - y = k + 1 := ⟨rows.length - y - 1, by omega⟩
  rw [hk, domE, show rows.length - (k + 1) = y by omega, show rows.length - (y + 1) = k by omega]; rfl
theorem go_skip {W : Nat} {rows : List Int} {f g : Nat → Int} {left : Lit → Bool} {y x : Nat} (hy : y < rows.length) (h : GoOK W rows f g left y) (hx : x < 2 ^ W) (hl : left (ky x) = true) (hs : subN x (rowN rows y) = false) :
    GoOK W rows f g (fun z => left z && !z.sameKey (ky x)) y := by
  unfold GoOK at h ⊢
  rw [done_step hx hl, dom_row hy, hs]
  simpa using h
/-- one entry under way: the first b of its ways -/
def InOK (W : Nat) (rows : List Int) (f g : Nat → Int) (left : Lit → Bool) (y x used b : Nat) : Prop :=
  Cg (sm (fun s => g s * (domE W rows (rows.length - (y + 1)) s : Int)) (2 ^ W)) (doneS (2 ^ W) left f (domE W rows (rows.length - y)) + f x * sm (fun s => dW W used s * (domE W rows (rows.length - (y + 1)) s : Int)) b)
theorem in_start {W : Nat} {rows : List Int} {f g : Nat → Int} {left : Lit → Bool} {y : Nat} (h : GoOK W rows f g left y) (x used : Nat) : InOK W rows f g left y x used 0 := by
  unfold InOK
  simp only [sm, Int.mul_zero, Int.add_zero]
  exact h
theorem in_skip {W : Nat} {rows : List Int} {f g : Nat → Int} {left : Lit → Bool} {y x used b : Nat} (h : InOK W rows f g left y x used b) (h0 : dW W used b = 0) : InOK W rows f g left y x used (b + 1) := by
  unfold InOK at h ⊢
  rw [sm, h0, Int.zero_mul, Int.add_zero]; exact h
theorem in_step {W : Nat} {rows : List Int} {f g : Nat → Int} {left : Lit → Bool} {y x used b : Nat} (h : InOK W rows f g left y x used b) (hb : b < 2 ^ W) :
    InOK W rows f (upd g b (wrap64 (g b + wrap64 (f x * dW W used b)))) left y x used (b + 1) := by
  unfold InOK at h ⊢
  refine (sm_bump g (fun s => (domE W rows (rows.length - (y + 1)) s : Int)) b (wrap64 (f x * dW W used b)) hb).trans ?_
  rw [sm, Int.mul_add, ← Int.add_assoc]
  refine h.add ?_
  rw [← Int.mul_assoc]
  exact (Cg.wrap _).mulR _
theorem in_end {W : Nat} {rows : List Int} {f g : Nat → Int} {left : Lit → Bool} {y x : Nat} (hy : y < rows.length) (h : InOK W rows f g left y x (usedN W x (rowN rows y)) (2 ^ W)) (hx : x < 2 ^ W) (hl : left (ky x) = true) (hs : subN x (rowN rows y) = true) :
    GoOK W rows f g (fun z => left z && !z.sameKey (ky x)) y := by
  unfold InOK at h
  unfold GoOK
  rw [done_step hx hl, dom_row hy, hs, if_pos rfl]
  exact h.trans ((Cg.refl _).add ((ways_sum W _ _).mulL _))
set_option maxRecDepth 100000 in
set_option maxHeartbeats 16000000 in
theorem implCd_any (wd : Int) (rows : List Int) (v : Value) (w : World) (h : IntsAt w v rows) :
    Calls Try.prog 16 #[.agg #[.int .i64 wd, v]] w fun e w' => e = .returned (.int .i64 (cdV wd rows)) ∧ ∃ x, w' = ext w x := by
  have h0 := h
  obtain ⟨a, b, o, cap, rfl, hc1, hc2, hc3, hcell⟩ := h.opn
  have h1 := h0.alloc (.cells #[.int .i64 wd, .slice a rows.length cap] 28)
  clear h
  cases hr : regB wd rows
  · have HF := Lib.hid (cdV_no hr)
    clear hcell
    go_enter Try.func16, Try.ntmps16
    go_wp2_with (first | (go_at_call 45; refine (isRegion_any _ _ _ _ h1).mono ?_; rintro e w' ⟨rfl, xe, rfl⟩))
    go_ret
    exact ⟨ret_int HF.out.symm, (by repeat (first | exact ext_refl _ | (with_reducible assumption) | refine ext_ext' ?_ _ | refine ext_alloc' ?_ _ | refine ext_drew' ?_))⟩
  obtain ⟨W, rfl, hW1, hW2, hl1, hl2, hrow⟩ := regB_bd hr
  have HF := Lib.hid (cdV_yes hr)
  have HR := Lib.hid hr
  haveI : Le6 W := ⟨hW2⟩
  have hlen := shl6 hW2
  have hpos := shl_pos W
  have hpw := shl_pow W
  obtain ⟨N, hN⟩ : ∃ N, N = shlN 1 W := ⟨_, rfl⟩
  have HN2 := Lib.hid (hN.trans hpw)
  have HS := Lib.hid hN
  rw [← hN] at hlen hpos
  have H0 := Held.start (w.alloc (.cells #[.int .i64 W, .slice a rows.length cap] 28))
  have hmm := @run_makeMap Try.prog
  have HROW := Lib.hid hrow
  have HCELL := Lib.hid hcell
  clear hN hrow hpw hcell
  go_enter Try.func16, Try.ntmps16
  go_wp2_with (first | (go_at_call 45; refine (isRegion_any _ _ _ _ h1).mono ?_; rintro e w' ⟨rfl, xe, rfl⟩; replace H0 := H0.ext xe) | (refine wpList_insert_own _ rfl _ _ _ 76 rfl 3 3 keyI Try.underlying76 _ _ 0 _ rfl (World.ownsMap_made _ _ _ _) (by unfold maxLen; omega) (.int .i64 0) (.int .i64 1) (ky 0) rfl rfl ky_zero (.lit (.int .i64 1)) [] el_one ?_; intro w1 hown1 hgrow1; have H1 := Held.beside (H0.to (by repeat (first | exact ext_refl _ | (with_reducible assumption) | refine ext_ext' ?_ _ | refine ext_alloc' ?_ _ | refine ext_drew' ?_))) hgrow1 H0.le (fun r hr => by cases hr); clear H0; obtain ⟨kb0, kb1⟩ := H1.box2))
  have HC0 := Lib.hid ((CMap.empty (2 ^ W)).put (Nat.two_pow_pos W) 1)
  have HB0 := H1.bel.size
  have HH := Lib.hid H1
  generalize (ext _ xe).heap.size = B at hown1 ⊢
  clear H1 hgrow1
  go_loopw [3, 19] (fun u i wr => ∃ (B1 n1 y : Nat) (D1 : DataW Unit) (f : Nat → Int), u = .map (some B1) ∧ i = .int .i64 y ∧ y ≤ rows.length ∧ n1 ≤ 64 ^ y ∧ OwnsC wr B1 n1 D1 ∧ CMap (2 ^ W) D1 f ∧ Hid (RowOK W rows f y) ∧ Held (w.alloc (.cells #[.int .i64 W, .slice a rows.length cap] 28)) wr []) (fun _ i _ => rows.length - (intOf i).toNat)
  case atStart => exact ⟨B, 1, 0, _, _, rfl, rfl, Nat.zero_le _, Nat.le_refl _, hown1, HC0.out, Lib.hid (row_start W rows), HH.out⟩
  case round =>
    clear HH hown1 HC0
    obtain ⟨B1, n1, y, D1, f, rfl, rfl, hy, hn1, hown, hcm, HRO, H⟩ := hrel
    by_cases hlt : y < rows.length
    · obtain ⟨a2, b2, o2, cap2, e3, _, _, _, hc⟩ := (h1.mono H.bel).opn
      simp only [Value.slice.injEq] at e3
      obtain ⟨rfl, _, rfl⟩ := e3
      obtain ⟨q1, q2, q3⟩ := hc y hlt
      obtain ⟨r1, r2⟩ := HROW.out y hlt
      rw [r1] at q3
      haveI := row_lt63 hW2 r2
      have HH := Lib.hid H
      have hown' := hown.alloc (.map #[] 0)
      have HCM := Lib.hid hcm
      have HOW := Lib.hid hown
      clear hc H hcm r1 hown
      go_wp2_with (first | (at_range; refine wpList_range_own _ rfl _ 76 rfl 3 3 keyI Try.underlying76 _ B1 n1 D1 rfl hown' ?_; intro w0 hrg0 hg0 hs0))
      go_frame
      have hB1 : B1 < wr.heap.size := HOW.out.lt
      have HO2 := Lib.hid (World.ownsMap.kept (made_owns wr) hg0 (by simp))
      have HW0 := Lib.hid ((HH.out.to (by repeat (first | exact ext_refl _ | (with_reducible assumption) | refine ext_ext' ?_ _ | refine ext_alloc' ?_ _ | refine ext_drew' ?_))).sameB hg0)
      have hBb := HH.out.le
      obtain ⟨B2, hB2⟩ : ∃ B2, B2 = wr.heap.size := ⟨_, rfl⟩
      obtain ⟨r, hr3⟩ : ∃ r, r = (wr.alloc (.map #[] 0)).heap.size := ⟨_, rfl⟩
      rw [World.size_alloc, ← hB2] at hr3
      have hrg0' : w0.ranges Try.prog 3 (plainElem Try.prog 3) B1 r n1 D1 (Maps.has D1) (Maps.size D1) := by rw [hr3, hB2, ← World.size_alloc wr (.map #[] 0)]; exact hrg0
      have hpr : (wr.alloc (.map #[] 0)).heap.size = r := by rw [World.size_alloc, ← hB2, hr3]
      rw [hpr]
      rw [← hB2] at hB1 HO2 hBb ⊢
      have hsz := own_size HOW.out
      have HR0 := Lib.hid hrg0'
      clear hrg0 hrg0' hg0 hs0 hpr hown' HOW q1 q2 q3 hB2
      have hrB : B2 < r := by omega
      clear hr3
      have hpow : 64 ^ y ≤ 64 ^ 6 := Nat.pow_le_pow_right (by omega) (by omega)
      have hn2 : n1 ≤ 68719476736 := by omega
      clear hpow
      go_loopw [7] (fun _ wr2 => ∃ (left : Lit → Bool) (cnt n2 : Nat) (D2 : DataW Unit) (g : Nat → Int), wr2.ranges Try.prog 3 (plainElem Try.prog 3) B1 r n1 D1 left cnt ∧ (∀ kl, left kl = true → Maps.has D1 kl = true) ∧ OwnsC wr2 B2 n2 D2 ∧ CMap (2 ^ W) D2 g ∧ n2 + 64 * cnt ≤ 64 * n1 ∧ Hid (GoOK W rows f g left y) ∧ Held (w.alloc (.cells #[.int .i64 W, .slice a rows.length cap] 28)) wr2 []) (fun _ wr2 => wr2.rangeLeft B1 r)
      case atStart => exact ⟨_, _, 0, _, _, HR0.out, fun _ h => h, HO2.out, CMap.empty _, by omega, Lib.hid (go_start HCM.out y), HW0.out⟩
      case round =>
        clear HO2 HR0 HW0
        obtain ⟨left, cnt, n2, D2, g, hrg, hsub, hown, hcm2, hcnt, HGO, H⟩ := hrel
        go_wp2_with (first | (at_next; refine wpList_next_ranges_ii _ rfl _ rfl 3 3 .i64 .i64 keyI Try.underlying3 Try.underlying3 B1 r n1 _ _ _ rfl hrg ?_ ?_))
        · intro _ hl0
          have HG := Lib.hid (go_end HRO.out HGO.out hl0)
          go_wp2_with fail
          go_roundw
          case rel => exact ⟨B2, n2, y + 1, D2, g, rfl, int_succ y, hlt, by rw [Nat.pow_succ]; omega, hown, hcm2, HG, H⟩
          case measure => simp [intOf]; omega
        · intro x c w1 cnt1 hwx hwc hlx hat hrg1 hlt1 hg1 hs1 hen
          obtain ⟨q, hq, ex⟩ := HCM.out.key _ (hsub _ hlx)
          simp only [ky, Lit.int.injEq, true_and] at ex
          subst ex
          obtain rfl := HCM.out.val hq hat
          have H1 := Held.beside H hg1 (by omega) (fun r hr => by cases hr)
          have hown1 := World.ownsMap.kept hown hg1 (by simp; omega)
          have hsub1 : ∀ kl, (left kl && !kl.sameKey (ky q)) = true → Maps.has D1 kl = true := fun kl h => hsub kl (by simp at h; exact h.1)
          haveI : Lt63 q := ⟨by have := pow6 hW2; omega⟩
          cases hsb : subN q (rowN rows y)
          · have hz : (((butN q (rowN rows y) : Nat) : Int) != 0) = true := by
              simp only [subN, decide_eq_false_iff_not] at hsb
              simp; omega
            have HG := Lib.hid (go_skip hlt HGO.out hq hlx hsb)
            have HHO := Lib.hid hown1
            have HH1 := Lib.hid H1
            have HRG := Lib.hid hrg1
            have HRO1 := Lib.hid hrg
            have HC2 := Lib.hid hcm2
            have HSB1 := Lib.hid hsub1
            clear hsb hown1 H1 hrg1 hrg hcm2 hsub1 hown H hsub hlx hat hg1 hs1
            go_wp2_with fail
            go_roundw
            case rel => exact ⟨_, cnt1, n2, D2, g, HRG.out, HSB1.out, HHO.out, HC2.out, by omega, HG, HH1.out⟩
            case measure => rw [HRG.out.left_eq, HRO1.out.left_eq]; exact hlt1
          · have hz : (((butN q (rowN rows y) : Nat) : Int) != 0) = false := by
              simp only [subN, decide_eq_true_eq] at hsb
              simp [hsb]
            obtain ⟨M, hM⟩ : ∃ M, M = 2 ^ W - 1 := ⟨_, rfl⟩
            have hM64 : M < 64 := by have := pow6 hW2; omega
            haveI : Lt63 M := ⟨by omega⟩
            have hwM : IntKind.i64.wrap (((shlN 1 W : Nat) : Int) - 1) = (M : Int) := by
              rw [IntWalk.i64_in _ (by have := HS.out; omega)]
              have := HS.out; have := HN2.out; have := Nat.two_pow_pos W; omega
            have hus : orN q (butN M (rowN rows y)) = usedN W q (rowN rows y) := by rw [usedN, hM]
            have HUS := Lib.hid hus
            obtain ⟨kb0, kb1⟩ := H1.box2
            have hbo := H1.boxOld
            have HHO := Lib.hid hown1
            have HH1 := Lib.hid H1
            have HRG := Lib.hid hrg1
            have HRO1 := Lib.hid hrg
            have HC2 := Lib.hid hcm2
            have HSB1 := Lib.hid hsub1
            have HSB := Lib.hid hsb
            clear hsb hown1 H1 hrg1 hrg hcm2 hsub1 hown H hsub hat hg1 hs1 hM hus
            go_wp2_with fail
            refine wp_region_heldE (by kernel_rfl) ?_
            refine' takeE (i := 0) (v := _) rfl (by kernel_rfl) (by kernel_rfl) (by kernel_rfl) (fun _ _ _ h => h) (by kernel_rfl) (fun x => ?_) (by repeat (first | exact ext_refl _ | (with_reducible assumption) | refine ext_ext' ?_ _ | refine ext_alloc' ?_ _ | refine ext_drew' ?_)) ?_
            rotate_left
            · (go_simp; try rfl)
            try simp only [List.getElem_toArray]
            try simp only [List.getElem_cons_succ]
            try simp only [List.getElem_cons_zero]
            try simp only [Act.put]
            try simp only [List.setIfInBounds_toArray]
            try simp only [List.set_cons_succ]
            try simp only [List.set_cons_zero]
            refine' takeE (i := 1) (v := _) rfl (by kernel_rfl) (by kernel_rfl) (by kernel_rfl) (fun _ _ _ h => h) (by kernel_rfl) (fun x => ?_) (by repeat (first | exact ext_refl _ | (with_reducible assumption) | refine ext_ext' ?_ _ | refine ext_alloc' ?_ _ | refine ext_drew' ?_)) ?_
            rotate_left
            · (go_simp; try rfl)
            try simp only [List.getElem_toArray]
            try simp only [List.getElem_cons_succ]
            try simp only [List.getElem_cons_zero]
            try simp only [Act.put]
            try simp only [List.setIfInBounds_toArray]
            try simp only [List.set_cons_succ]
            try simp only [List.set_cons_zero]
            refine' takeE (i := 2) (v := _) rfl (by kernel_rfl) (by kernel_rfl) (by kernel_rfl) (fun _ _ _ h => h) (by kernel_rfl) (fun x => ?_) (by repeat (first | exact ext_refl _ | (with_reducible assumption) | refine ext_ext' ?_ _ | refine ext_alloc' ?_ _ | refine ext_drew' ?_)) ?_
            rotate_left
            · (go_simp; try rfl)
            try simp only [List.getElem_toArray]
            try simp only [List.getElem_cons_succ]
            try simp only [List.getElem_cons_zero]
            try simp only [Act.put]
            try simp only [List.setIfInBounds_toArray]
            try simp only [List.set_cons_succ]
            try simp only [List.set_cons_zero]
            refine' takeE (i := 3) (v := _) rfl (by kernel_rfl) (by kernel_rfl) (by kernel_rfl) (fun _ _ _ h => h) (by kernel_rfl) (fun x => ?_) (by repeat (first | exact ext_refl _ | (with_reducible assumption) | refine ext_ext' ?_ _ | refine ext_alloc' ?_ _ | refine ext_drew' ?_)) ?_
            rotate_left
            · (go_simp; try rfl)
            try simp only [List.getElem_toArray]
            try simp only [List.getElem_cons_succ]
            try simp only [List.getElem_cons_zero]
            try simp only [Act.put]
            try simp only [List.setIfInBounds_toArray]
            try simp only [List.set_cons_succ]
            try simp only [List.set_cons_zero]
            refine' takeE (i := 4) (v := _) rfl (by kernel_rfl) (by kernel_rfl) (by kernel_rfl) (fun _ _ _ h => h) (by kernel_rfl) (fun x => ?_) (by repeat (first | exact ext_refl _ | (with_reducible assumption) | refine ext_ext' ?_ _ | refine ext_alloc' ?_ _ | refine ext_drew' ?_)) ?_
            rotate_left
            · (go_simp; try rfl)
            try simp only [List.getElem_toArray]
            try simp only [List.getElem_cons_succ]
            try simp only [List.getElem_cons_zero]
            try simp only [Act.put]
            try simp only [List.setIfInBounds_toArray]
            try simp only [List.set_cons_succ]
            try simp only [List.set_cons_zero]
            refine' takeE (i := 5) (v := _) rfl (by kernel_rfl) (by kernel_rfl) (by kernel_rfl) (fun _ _ _ h => h) (by kernel_rfl) (fun x => ?_) (by repeat (first | exact ext_refl _ | (with_reducible assumption) | refine ext_ext' ?_ _ | refine ext_alloc' ?_ _ | refine ext_drew' ?_)) ?_
            rotate_left
            · (go_simp; try rfl)
            try simp only [List.getElem_toArray]
            try simp only [List.getElem_cons_succ]
            try simp only [List.getElem_cons_zero]
            try simp only [Act.put]
            try simp only [List.setIfInBounds_toArray]
            try simp only [List.set_cons_succ]
            try simp only [List.set_cons_zero]
            refine' takeE (i := 6) (v := _) rfl (by kernel_rfl) (by kernel_rfl) (by kernel_rfl) (fun _ _ _ h => h) (by kernel_rfl) (fun x => ?_) (by repeat (first | exact ext_refl _ | (with_reducible assumption) | refine ext_ext' ?_ _ | refine ext_alloc' ?_ _ | refine ext_drew' ?_)) ?_
            rotate_left
            · (go_simp; try rfl)
            try simp only [List.getElem_toArray]
            try simp only [List.getElem_cons_succ]
            try simp only [List.getElem_cons_zero]
            try simp only [Act.put]
            try simp only [List.setIfInBounds_toArray]
            try simp only [List.set_cons_succ]
            try simp only [List.set_cons_zero]
            refine' takeE (i := 7) (v := _) rfl (by kernel_rfl) (by kernel_rfl) (by kernel_rfl) (fun _ _ _ h => h) (by kernel_rfl) (fun x => ?_) (by repeat (first | exact ext_refl _ | (with_reducible assumption) | refine ext_ext' ?_ _ | refine ext_alloc' ?_ _ | refine ext_drew' ?_)) ?_
            rotate_left
            · (go_simp; try rfl)
            try simp only [List.getElem_toArray]
            try simp only [List.getElem_cons_succ]
            try simp only [List.getElem_cons_zero]
            try simp only [Act.put]
            try simp only [List.setIfInBounds_toArray]
            try simp only [List.set_cons_succ]
            try simp only [List.set_cons_zero]
            refine' takeE (i := 8) (v := _) rfl (by kernel_rfl) (by kernel_rfl) (by kernel_rfl) (fun _ _ _ h => h) (by kernel_rfl) (fun x => ?_) (by repeat (first | exact ext_refl _ | (with_reducible assumption) | refine ext_ext' ?_ _ | refine ext_alloc' ?_ _ | refine ext_drew' ?_)) ?_
            rotate_left
            · (go_simp; try rfl)
            try simp only [List.getElem_toArray]
            try simp only [List.getElem_cons_succ]
            try simp only [List.getElem_cons_zero]
            try simp only [Act.put]
            try simp only [List.setIfInBounds_toArray]
            try simp only [List.set_cons_succ]
            try simp only [List.set_cons_zero]
            refine' takeE (i := 9) (v := _) rfl (by kernel_rfl) (by kernel_rfl) (by kernel_rfl) (fun _ _ _ h => h) (by kernel_rfl) (fun x => ?_) (by repeat (first | exact ext_refl _ | (with_reducible assumption) | refine ext_ext' ?_ _ | refine ext_alloc' ?_ _ | refine ext_drew' ?_)) ?_
            rotate_left
            · (go_simp; try rfl)
            try simp only [List.getElem_toArray]
            try simp only [List.getElem_cons_succ]
            try simp only [List.getElem_cons_zero]
            try simp only [Act.put]
            try simp only [List.setIfInBounds_toArray]
            try simp only [List.set_cons_succ]
            try simp only [List.set_cons_zero]
            refine' takeE (i := 12) (v := _) rfl (by kernel_rfl) (by kernel_rfl) (by kernel_rfl) (fun _ _ _ h => h) (by kernel_rfl) (fun x => ?_) (by repeat (first | exact ext_refl _ | (with_reducible assumption) | refine ext_ext' ?_ _ | refine ext_alloc' ?_ _ | refine ext_drew' ?_)) ?_
            rotate_left
            · (go_simp; try rfl)
            try simp only [List.getElem_toArray]
            try simp only [List.getElem_cons_succ]
            try simp only [List.getElem_cons_zero]
            try simp only [Act.put]
            try simp only [List.setIfInBounds_toArray]
            try simp only [List.set_cons_succ]
            try simp only [List.set_cons_zero]
            refine nextE (i := 10) rfl (by kernel_rfl) (by kernel_rfl) (fun K' hK' => ?_)
            go_wp2_with ((first | (go_at_call 56; go_loud (refine (dominoWays_row W (orN q (butN M (rowN rows y))) N hW2 HN2.out _).mono ?_; rintro e w' ⟨gw, rfl, H2⟩; have hxw := ext_trans (ext_ext' (ext_refl w1) _) (ext_of H2.bel)))))
            refine hK'.out _ _ (by repeat (first | exact ext_refl _ | (with_reducible assumption) | refine ext_ext' ?_ _ | refine ext_alloc' ?_ _ | refine ext_drew' ?_)) ?_
            clear hK' K'
            refine' takeE (i := 11) (v := _) rfl (by kernel_rfl) (by kernel_rfl) (by kernel_rfl) (fun _ _ _ h => h) (by kernel_rfl) (fun x => ?_) (by repeat (first | exact ext_refl _ | (with_reducible assumption) | refine ext_ext' ?_ _ | refine ext_alloc' ?_ _ | refine ext_drew' ?_)) ?_
            rotate_left
            · (go_simp; try rfl)
            try simp only [List.getElem_toArray]
            try simp only [List.getElem_cons_succ]
            try simp only [List.getElem_cons_zero]
            try simp only [Act.put]
            try simp only [List.setIfInBounds_toArray]
            try simp only [List.set_cons_succ]
            try simp only [List.set_cons_zero]
            refine wpAnyH_done (by kernel_rfl) ?_ _
            have hgp := ((H2.own _ List.mem_cons_self).lt gw rfl).1
            have hgw := grown_ext hxw
            have hB2l := HHO.out.lt
            have hne2 : gw ≠ B2 := by rw [size_ext] at hgp; omega
            have HJ := Lib.hid (HH1.out.join (L' := [rowT gw N (dW W (orN q (butN M (rowN rows y))))]) (by
              refine ⟨bel_of_ext hxw, fun r hr => ?_, by simp⟩
              have := H2.own r hr
              exact own_base this (by rw [size_ext]; omega)))
            have HRG2 := Lib.hid (HRG.out.kept hgw (by simp) (by simp))
            have HHO2 := Lib.hid (World.ownsMap.kept HHO.out hgw (by simp))
            have HIN := Lib.hid (in_start HGO.out q (orN q (butN M (rowN rows y))))
            clear HH1 HRG HHO hgw hgp hB2l H2 hxw kb0 kb1 hbo hwM
            go_wp2_with fail
            go_loopw [47] (fun i wr3 => ∃ (bq n3 : Nat) (D3 : DataW Unit) (g3 : Nat → Int), i = .int .i64 bq ∧ bq ≤ N ∧ wr3.ranges Try.prog 3 (plainElem Try.prog 3) B1 r n1 D1 (fun z => left z && !z.sameKey (ky q)) cnt1 ∧ OwnsC wr3 B2 n3 D3 ∧ CMap (2 ^ W) D3 g3 ∧ n3 + (N - bq) + 64 * cnt1 ≤ 64 * n1 ∧ Hid (InOK W rows f g3 left y q (orN q (butN M (rowN rows y))) bq) ∧ Held (w.alloc (.cells #[.int .i64 W, .slice a rows.length cap] 28)) wr3 [rowT gw N (dW W (orN q (butN M (rowN rows y))))]) (fun i _ => N - (intOf i).toNat)
            case atStart => exact ⟨0, n2, D2, g, rfl, Nat.zero_le _, HRG2.out, HHO2.out, HC2.out, by omega, HIN, HJ.out⟩
            case round =>
              clear HJ HRG2 HHO2 HIN HC2 HGO
              obtain ⟨bq, n3, D3, g3, rfl, hbq, hrg, hown, hcm3, hcnt3, HIN, H⟩ := hrel
              by_cases hlt3 : bq < N
              · have hbq2 : bq < 2 ^ W := by rw [← HN2.out]; exact hlt3
                obtain ⟨q1, q2⟩ := H.cellRow hlt3
                have hnn := dW_nonneg (used := orN q (butN M (rowN rows y))) hW2 hbq2
                have HH3 := Lib.hid H
                have HRG3 := Lib.hid hrg
                have HO3 := Lib.hid hown
                have HC3 := Lib.hid hcm3
                have HZ := Lib.hid (fun h => in_skip HIN.out h)
                have HST := Lib.hid (in_step HIN.out hbq2)
                clear H hrg hown hcm3 q2
                generalize hd : dW W (orN q (butN M (rowN rows y))) bq = d at q1 hnn HZ HST
                clear hd
                by_cases hd0 : d = 0
                · have hdp : decide (0 < d) = false := decide_eq_false (by omega)
                  have HIN2 := Lib.hid (HZ.out hd0)
                  clear hd0 HZ HST
                  go_wp2_with fail
                  go_roundw
                  case rel => exact ⟨bq + 1, n3, D3, g3, int_succ bq, hlt3, HRG3.out, HO3.out, HC3.out, by omega, HIN2, HH3.out⟩
                  case measure => simp [intOf]; omega
                · have hdp : decide (0 < d) = true := decide_eq_true (by omega)
                  have hb63 : bq < 9223372036854775808 := by omega
                  clear hd0 HZ
                  go_wp2_with (first | (refine wpList_lookup_own_int _ rfl _ _ 76 rfl 3 3 .i64 keyI Try.underlying76 Try.underlying3 (zeroI _) B2 n3 _ rfl HO3.out (.int .i64 bq) (ky bq) rfl (ky_of hb63) ?_; intro cc hat hwcc; obtain rfl := HC3.out.look hbq2 hat) | (at_mapUpdate; go_loud (refine wpList_mapUpdate_own _ rfl _ _ _ 76 rfl 3 3 keyI Try.underlying76 _ B2 n3 _ rfl HO3.out (by unfold maxLen; omega) (.int .i64 bq) _ (ky bq) rfl rfl (ky_of hb63) _ [] (el_of _) ?_; intro w3 hown3 hgrow3)))
                  go_roundw
                  case rel => exact ⟨bq + 1, n3 + 1, _, _, int_succ bq, hlt3, HRG3.out.kept hgrow3 (by simp; omega) (by simp; omega), hown3, HC3.out.put hbq2 _, by omega, HST, HH3.out.beside hgrow3 hBb (fun r hr => by simp at hr; subst hr; simpa [Value.ownBlock] using hne2)⟩
                  case measure => simp [intOf]; omega
              · have hbe : bq = N := by omega
                have HG := Lib.hid (in_end hlt (by have := HIN.out; rw [HUS.out, hbe, HN2.out] at this; exact this) hq hlx HSB.out)
                have HRG3 := Lib.hid hrg
                have HO3 := Lib.hid hown
                have HC3 := Lib.hid hcm3
                have HH3 := Lib.hid H.drop
                clear H hrg hown hcm3 hbe HIN
                go_wp2_with fail
                go_roundw
                case rel => exact ⟨_, cnt1, n3, D3, g3, HRG3.out, HSB1.out, HO3.out, HC3.out, by omega, HG, HH3.out⟩
                case measure => rw [HRG3.out.left_eq, HRO1.out.left_eq]; exact hlt1
    · have hye : y = rows.length := by omega
      have HRE := Lib.hid (row_end (show RowOK W rows f rows.length by rw [← hye]; exact HRO.out))
      have HX := Lib.hid (ext_of H.unbox.bel)
      have HO3 := Lib.hid hown
      have HC3 := Lib.hid hcm
      clear H hown hcm hye
      go_wp2_with (first | (refine wpList_lookup_own_int _ rfl _ _ 76 rfl 3 3 .i64 keyI Try.underlying76 Try.underlying3 (zeroI _) B1 n1 _ rfl HO3.out (.int .i64 0) (ky 0) rfl ky_zero ?_; intro cc hat hwcc; obtain rfl := HC3.out.look (Nat.two_pow_pos W) hat))
      go_ret
      have hw0 : wrap64 (f 0) = f 0 := by
        have : -9223372036854775808 ≤ f 0 ∧ f 0 ≤ 9223372036854775807 := by simpa [Lit.wf, IntKind.min, IntKind.max, IntKind.signed, IntKind.bits] using hwcc
        exact wrap_in (by omega) (by omega)
      exact ⟨ret_int (by rw [HF.out, ← HRE.out.eq, hw0]), HX.out⟩
end
section
open Go.ChangeShapes Go.WideShapes Go.ChangeAt Go.RowKit
def stripT : List (List (List Int)) := [[[]],
  [[1, 0], [0, 1], [1, 0], [0, 1], [1, 0], [0, 1], [1, 0], [0, 1], [1, 0], [0, 1], [1, 0], [0, 1], [1, 0], [0, 1], [1, 0], [0, 1], [1, 0]],
  [[1, 0, 0, 0], [1, 0, 0, 1], [2, 0, 0, 1], [3, 0, 0, 2], [5, 0, 0, 3], [8, 0, 0, 5], [13, 0, 0, 8], [21, 0, 0, 13], [34, 0, 0, 21], [55, 0, 0, 34], [89, 0, 0, 55], [144, 0, 0, 89], [233, 0, 0, 144], [377, 0, 0, 233], [610, 0, 0, 377], [987, 0, 0, 610], [1597, 0, 0, 987]],
  [[1, 0, 0, 0, 0, 0, 0, 0], [0, 1, 0, 0, 1, 0, 0, 1], [3, 0, 0, 1, 0, 0, 1, 0], [0, 4, 0, 0, 4, 0, 0, 3], [11, 0, 0, 4, 0, 0, 4, 0], [0, 15, 0, 0, 15, 0, 0, 11], [41, 0, 0, 15, 0, 0, 15, 0], [0, 56, 0, 0, 56, 0, 0, 41], [153, 0, 0, 56, 0, 0, 56, 0], [0, 209, 0, 0, 209, 0, 0, 153], [571, 0, 0, 209, 0, 0, 209, 0], [0, 780, 0, 0, 780, 0, 0, 571], [2131, 0, 0, 780, 0, 0, 780, 0], [0, 2911, 0, 0, 2911, 0, 0, 2131], [7953, 0, 0, 2911, 0, 0, 2911, 0], [0, 10864, 0, 0, 10864, 0, 0, 7953], [29681, 0, 0, 10864, 0, 0, 10864, 0]],
  [[1, 0, 0, 0, 0, 0, 0, 0, 0, 0, 0, 0, 0, 0, 0, 0], [1, 0, 0, 1, 0, 0, 0, 0, 0, 1, 0, 0, 1, 0, 0, 1], [5, 0, 0, 2, 0, 0, 1, 0, 0, 1, 0, 0, 2, 0, 0, 1], [11, 0, 0, 7, 0, 0, 1, 0, 0, 6, 0, 0, 7, 0, 0, 5], [36, 0, 0, 18, 0, 0, 6, 0, 0, 12, 0, 0, 18, 0, 0, 11], [95, 0, 0, 54, 0, 0, 12, 0, 0, 42, 0, 0, 54, 0, 0, 36], [281, 0, 0, 149, 0, 0, 42, 0, 0, 107, 0, 0, 149, 0, 0, 95], [781, 0, 0, 430, 0, 0, 107, 0, 0, 323, 0, 0, 430, 0, 0, 281], [2245, 0, 0, 1211, 0, 0, 323, 0, 0, 888, 0, 0, 1211, 0, 0, 781], [6336, 0, 0, 3456, 0, 0, 888, 0, 0, 2568, 0, 0, 3456, 0, 0, 2245], [18061, 0, 0, 9792, 0, 0, 2568, 0, 0, 7224, 0, 0, 9792, 0, 0, 6336], [51205, 0, 0, 27853, 0, 0, 7224, 0, 0, 20629, 0, 0, 27853, 0, 0, 18061], [145601, 0, 0, 79058, 0, 0, 20629, 0, 0, 58429, 0, 0, 79058, 0, 0, 51205], [413351, 0, 0, 224659, 0, 0, 58429, 0, 0, 166230, 0, 0, 224659, 0, 0, 145601], [1174500, 0, 0, 638010, 0, 0, 166230, 0, 0, 471780, 0, 0, 638010, 0, 0, 413351], [3335651, 0, 0, 1812510, 0, 0, 471780, 0, 0, 1340730, 0, 0, 1812510, 0, 0, 1174500], [9475901, 0, 0, 5148161, 0, 0, 1340730, 0, 0, 3807431, 0, 0, 5148161, 0, 0, 3335651]]]
def stT (wd i : Nat) : List Int := (stripT.getD wd []).getD i []
theorem ssB_congr {wd N : Nat} {c : Int} {a : Nat} {g g' : Nat → Int} (h : ∀ q, q < N → g q = g' q) : ∀ b, b ≤ N → ∀ q, q < N → ssB wd c a g b q = ssB wd c a g' b q := by
  intro b
  induction b with
  | zero => intro _ q hq; exact h q hq
  | succ b ih =>
    intro hb q hq
    rw [ssB_succ, ssB_succ]
    unfold upd
    rw [ih (by omega) b (by omega), ih (by omega) q hq]
theorem ssA_congr {wd : Nat} {f f' : Nat → Int} (h : ∀ q, q < shlN 1 wd → f q = f' q) : ∀ a, a ≤ shlN 1 wd → ∀ q, q < shlN 1 wd → ssA wd f a q = ssA wd f' a q := by
  intro a
  induction a with
  | zero => intro _ q hq; rfl
  | succ a ih =>
    intro ha q hq
    rw [ssA_succ, ssA_succ, h a (by omega)]
    exact ssB_congr (ih (by omega)) _ (Nat.le_refl _) q hq
theorem stT_zero : ∀ wd, wd < 5 → 1 ≤ wd → tab (shlN 1 wd) (ssN wd 0) = stT wd 0 := by decide +kernel
theorem stT_step : ∀ wd, wd < 5 → 1 ≤ wd → ∀ i, i < 16 → tab (shlN 1 wd) (ssA wd (nth (stT wd i)) (shlN 1 wd)) = stT wd (i + 1) := by decide +kernel
theorem stT_all {wd : Nat} (h1 : 1 ≤ wd) (h4 : wd < 5) : ∀ i, i ≤ 16 → tab (shlN 1 wd) (ssN wd i) = stT wd i := by
  intro i
  induction i with
  | zero => intro _; exact stT_zero wd h4 h1
  | succ i ih =>
    intro hi
    rw [← stT_step wd h4 h1 i (by omega), ssN_succ]
    refine tab_congr fun q hq => ssA_congr (fun k hk => ?_) _ (Nat.le_refl _) q hq
    rw [← ih (by omega), tab_nth _ hk]
theorem stT_pos : ∀ wd, wd < 5 → 1 ≤ wd → ∀ i, i < 17 → 0 ≤ nth (stT wd i) 0 := by decide +kernel
theorem ssN_pos {wd i : Nat} (h1 : 1 ≤ wd) (h4 : wd < 5) (hi : i ≤ 16) : 0 ≤ ssN wd i 0 := by
  have h := stT_pos wd h4 h1 i (by omega)
  rw [← stT_all h1 h4 i hi, tab_nth _ (shl_pos wd)] at h
  exact h
end
section
open Go.ChangeShapes Go.WideShapes Go.ChangeAt Go.RowKit
def okW (wd n : Int) : Bool := btw wd 1 4 && btw n 0 16
def scV (wd n : Int) : Int := if okW wd n then ssN wd.toNat n.toNat 0 else -1
def seqTo (wd k : Nat) : List Int := (List.range k).map fun j => ssN wd j 0
theorem seqTo_len (wd k : Nat) : (seqTo wd k).length = k := by simp [seqTo]
theorem seqTo_succ (wd k : Nat) : seqTo wd (k + 1) = seqTo wd k ++ [ssN wd k 0] := by simp [seqTo, List.range_succ]
theorem seqTo_nth {wd k j : Nat} (h : j < k) : nth (seqTo wd k) j = ssN wd j 0 := by simp [seqTo, nth, List.getD, h]
def seqV (wd n : Int) : List Int := if okW wd n then seqTo wd.toNat (n.toNat + 1) else []
theorem okW_w {wd n : Int} (h : btw wd 1 4 = false) : okW wd n = false := by simp [okW, h]
theorem okW_n {wd n : Int} (h : btw n 0 16 = false) : okW wd n = false := by simp [okW, h]
theorem okW_y {wd n : Int} (h : btw wd 1 4 = true) (h2 : btw n 0 16 = true) : okW wd n = true := by simp [okW, h, h2]
theorem scV_no {wd n : Int} (h : okW wd n = false) : scV wd n = -1 := by simp [scV, h]
theorem scV_yes {wd n : Nat} (h : okW wd n = true) : scV wd n = ssN wd n 0 := by simp [scV, h]
theorem seqV_no {wd n : Int} (h : okW wd n = false) : seqV wd n = [] := by simp [seqV, h]
theorem seqV_yes {wd n : Nat} (h : okW wd n = true) : seqV wd n = seqTo wd (n + 1) := by simp [seqV, h]
theorem okW_nat {wd n : Int} (h : okW wd n = true) : ∃ W m : Nat, wd = W ∧ n = m ∧ 1 ≤ W ∧ W ≤ 4 ∧ m ≤ 16 := by
  simp only [okW, Bool.and_eq_true, btw_iff] at h
  exact ⟨wd.toNat, n.toNat, by omega, by omega, by omega, by omega, by omega⟩
theorem implCount_any (wd n : Int) (w : World) : Calls Try.prog 23 #[.int .i64 wd, .int .i64 n] w fun e w' => e = .returned (.int .i64 (scV wd n)) ∧ ∃ x, w' = ext w x := by
  cases h1 : btw wd 1 4
  · have HF := Lib.hid (scV_no (okW_w (n := n) h1))
    go_enter Try.func23, Try.ntmps23
    go_wp2_with (first | (go_at_call 65; refine (between_any _ _ _ _).mono ?_; rintro e w' ⟨rfl, xe, rfl⟩))
    go_ret
    exact ⟨ret_int HF.out.symm, (by repeat (first | exact ext_refl _ | (with_reducible assumption) | refine ext_ext' ?_ _ | refine ext_alloc' ?_ _ | refine ext_drew' ?_))⟩
  cases h2 : btw n 0 16
  · have HF := Lib.hid (scV_no (okW_n (wd := wd) h2))
    go_enter Try.func23, Try.ntmps23
    go_wp2_with (first | (go_at_call 65; refine (between_any _ _ _ _).mono ?_; rintro e w' ⟨rfl, xe, rfl⟩))
    go_ret
    exact ⟨ret_int HF.out.symm, (by repeat (first | exact ext_refl _ | (with_reducible assumption) | refine ext_ext' ?_ _ | refine ext_alloc' ?_ _ | refine ext_drew' ?_))⟩
  obtain ⟨W, m, rfl, rfl, b1, b2, b3⟩ := okW_nat (okW_y h1 h2)
  have HF := Lib.hid (scV_yes (okW_y h1 h2))
  go_enter Try.func23, Try.ntmps23
  go_wp2_with (first | (go_at_call 65; refine (between_any _ _ _ _).mono ?_; rintro e w' ⟨rfl, xe, rfl⟩) | (go_at_call 66; refine (stripCount_any _ _ (by omega) b3 _).mono ?_; rintro e w' ⟨rfl, xe, rfl⟩))
  go_ret
  exact ⟨ret_int HF.out.symm, (by repeat (first | exact ext_refl _ | (with_reducible assumption) | refine ext_ext' ?_ _ | refine ext_alloc' ?_ _ | refine ext_drew' ?_))⟩
theorem scV_neg {wd n : Int} : decide (scV wd n < 0) = !okW wd n := by
  cases h : okW wd n
  · simp [scV_no h]
  · obtain ⟨W, m, rfl, rfl, b1, b2, b3⟩ := okW_nat h
    have := ssN_pos b1 (by omega) b3
    rw [scV_yes h]; simp; omega
set_option maxHeartbeats 1000000 in
theorem implSeq_any (wd n : Int) (w : World) : Calls Try.prog 24 #[.int .i64 wd, .int .i64 n] w (IntsPost w (seqV wd n)) := by
  cases h1 : okW wd n
  · have HF := Lib.hid (seqV_no h1)
    have hneg : decide (scV wd n < 0) = true := by rw [scV_neg, h1]; rfl
    go_enter Try.func24, Try.ntmps24
    go_wp2_with (first | (go_at_call 23; refine (implCount_any _ _ _).mono ?_; rintro e w' ⟨rfl, xe, rfl⟩))
    go_ret
    exact .nil HF.out (by repeat (first | exact ext_refl _ | (with_reducible assumption) | refine ext_ext' ?_ _ | refine ext_alloc' ?_ _ | refine ext_drew' ?_))
  have hneg : decide (scV wd n < 0) = false := by rw [scV_neg, h1]; rfl
  obtain ⟨W, m, rfl, rfl, b1, b2, b3⟩ := okW_nat h1
  have HF := Lib.hid (seqV_yes h1)
  go_enter Try.func24, Try.ntmps24
  go_wp2_with (first | (go_at_call 23; refine (implCount_any _ _ _).mono ?_; rintro e w' ⟨rfl, xe, rfl⟩))
  go_loopw [5, 6] (fun u i wr => ∃ (r : Value) (k : Nat), r = u ∧ k ≤ m + 1 ∧ i = .int .i64 k ∧ Held w wr [rowI r (seqTo W k)]) (fun _ i _ => m + 1 - (intOf i).toNat)
  case atStart => exact ⟨_, 0, rfl, Nat.zero_le _, rfl, ((Held.start w).to (by repeat (first | exact ext_refl _ | (with_reducible assumption) | refine ext_ext' ?_ _ | refine ext_alloc' ?_ _ | refine ext_drew' ?_))).nilI⟩
  case round =>
    obtain ⟨r, k, rfl, hk, rfl, H⟩ := hrel
    by_cases hlt : k < m + 1
    · have hle : decide ((k : Int) ≤ m) = true := decide_eq_true (by omega)
      go_wp2_with (first | (go_at_call 66; refine (stripCount_any _ _ (by omega) (by omega) _).mono ?_; rintro e w' ⟨rfl, xe, rfl⟩) | (at_builtin; refine wpList_append_held (m := 1) rfl _ _ _ rfl elemInt (H.to (by repeat (first | exact ext_refl _ | (with_reducible assumption) | refine ext_ext' ?_ _ | refine ext_alloc' ?_ _ | refine ext_drew' ?_))) rfl rfl (Sl_new1 _ _ _) (one_lit _) (by rw [seqTo_len]; unfold maxLen; omega) (by rw [seqTo_len]; omega) ?_; intro v' w' H; have H := H.snoc))
      go_roundw
      case rel =>
        refine ⟨v', k + 1, rfl, hlt, int_succ k, ?_⟩
        rw [seqTo_succ]
        exact H
      case measure => simp [intOf]; omega
    · have hle : decide ((k : Int) ≤ m) = false := decide_eq_false (by omega)
      rw [show k = m + 1 by omega] at H
      have HH := Lib.hid H
      clear H
      go_wp2_with fail
      go_ret
      exact .got HF.out HH.out
end
section
open Go.ChangeShapes Go.WideShapes Go.ChangeAt Go.RowKit
/-- a matrix of the width n that lies in w: addresses and cells -/
def MatF (n N : Nat) (w : World) (a : Option Addr) (cap : Nat) : Prop :=
  ∃ b o, ∀ k, k < N → Old w b ∧ (∀ w', (Instr.indexAt 52 (.slice a N cap) (.int .i64 k)).run Try.prog w' = .ok (.pointer (some ⟨b, o + k, none⟩)) w') ∧
    ∃ a2 b2 o2 cap2, w.cell? ⟨b, o + k, none⟩ = some (.slice a2 N cap2) ∧ ∀ j, j < N → Old w b2 ∧ (∀ w', (Instr.indexAt 22 (.slice a2 N cap2) (.int .i64 j)).run Try.prog w' = .ok (.pointer (some ⟨b2, o2 + j, none⟩)) w') ∧ w.cell? ⟨b2, o2 + j, none⟩ = some (.int .i64 (dW n k j))
theorem matTo_rAt' (wd n k : Nat) (h : k < n) : rAt (matTo wd n) k = waysTo wd k := by simp [rAt, matTo, List.getD, h]
theorem specMat_yes (n N : Nat) (h1 : 1 ≤ n) (h4 : n ≤ 4) (hN : N = shlN 1 n) (w : World) :
    Calls Try.prog 31 #[.int .i64 n] w fun e w' => ∃ a cap, e = .returned (.tuple #[.slice a N cap, .bool true]) ∧ (∃ x, w' = ext w x) ∧ MatF n N w' a cap := by
  refine (specMat_any n w).mono ?_
  rintro e w' ⟨v', vs, he, hl, H⟩
  have hb : btw (n : Int) 1 4 = true := btw_iff.2 ⟨by omega, by omega⟩
  rw [matV_yes hb] at he hl H
  simp only [Option.getD_some, Option.isSome_some] at he hl H
  rw [← hN] at hl H
  have R := Held.rows (L := []) (by rw [List.append_nil]; exact H) hl
  obtain ⟨a, b, o, cap, us, hv, c1, c2, c3, hc⟩ := R.opn
  rw [matTo_len] at hv hc c1 c2
  subst hv
  refine ⟨a, cap, he, ext_of H.bel, b, o, fun k hk => ?_⟩
  obtain ⟨g1, g2, g3, g4⟩ := hc k hk
  obtain ⟨a2, b2, o2, cap2, e2, d1, d2, d3, hd⟩ := g4.opn
  rw [matTo_rAt' _ _ _ hk, waysTo_len, ← shl_pow, ← hN] at e2 hd
  refine ⟨g1, g2, a2, b2, o2, cap2, by rw [g3, e2], fun j hj => ?_⟩
  obtain ⟨q1, q2, q3⟩ := hd j hj
  exact ⟨q1, q2, q3⟩
theorem specMat_no (wd : Int) (h : btw wd 1 4 = false) (w : World) :
    Calls Try.prog 31 #[.int .i64 wd] w fun e w' => ∃ v, e = .returned (.tuple #[v, .bool false]) ∧ ∃ x, w' = ext w x := by
  refine (specMat_any wd w).mono ?_
  rintro e w' ⟨v', vs, he, hl, H⟩
  rw [matV_no h] at he
  exact ⟨v', he, ext_of H.bel⟩
set_option maxHeartbeats 4000000 in
set_option maxRecDepth 100000 in
theorem specSeq_any (wd n : Int) (w : World) : Calls Try.prog 27 #[.int .i64 wd, .int .i64 n] w (IntsPost w (seqV wd n)) := by
  cases h1 : btw wd 1 4
  · have HF := Lib.hid (seqV_no (okW_w (n := n) h1))
    have H1 := Lib.hid h1
    clear h1
    go_enter Try.func27, Try.ntmps27
    go_wp2_with (first | (go_at_call 31; refine (specMat_no _ H1.out _).mono ?_; rintro e w' ⟨vm, rfl, xe, rfl⟩; have H := ((Held.start w).ext xe).empty 3 1))
    go_ret
    exact .empty HF.out (H.to (by repeat (first | exact ext_refl _ | (with_reducible assumption) | refine ext_ext' ?_ _ | refine ext_alloc' ?_ _ | refine ext_drew' ?_)))
  obtain ⟨b1, b2⟩ := btw_iff.1 h1
  obtain ⟨W, rfl⟩ : ∃ W : Nat, wd = W := ⟨wd.toNat, by omega⟩
  have bw1 : 1 ≤ W := by omega
  have bw2 : W ≤ 4 := by omega
  obtain ⟨N, hN⟩ : ∃ N, N = shlN 1 W := ⟨_, rfl⟩
  cases h2 : btw n 0 16
  · have HF := Lib.hid (seqV_no (okW_n (wd := W) h2))
    have HN := Lib.hid hN
    clear hN h1
    go_enter Try.func27, Try.ntmps27
    go_wp2_with (first | (go_at_call 31; refine (specMat_yes _ N bw1 bw2 HN.out _).mono ?_; rintro e w' ⟨am, cm, rfl, ⟨xe, rfl⟩, hm⟩; have H := ((Held.start w).ext xe).empty 3 1; clear hm) | (go_at_call 67; refine (l1In_b _ _ _ _ h2 _).mono ?_; rintro e w' ⟨rfl, xe, rfl⟩))
    go_ret
    exact .empty HF.out (H.to (by repeat (first | exact ext_refl _ | (with_reducible assumption) | refine ext_ext' ?_ _ | refine ext_alloc' ?_ _ | refine ext_drew' ?_)))
  obtain ⟨W', m, hW, rfl, _, _, b3⟩ := okW_nat (okW_y h1 h2)
  have HF := Lib.hid (seqV_yes (okW_y h1 h2))
  have hlen := shl6 (wd := W) (by omega)
  have hpos := shl_pos W
  rw [← hN] at hlen hpos
  have HN := Lib.hid hN
  clear hN h1 hW
  go_enter Try.func27, Try.ntmps27
  go_wp2_with (first | (go_at_call 31; refine (specMat_yes _ N bw1 bw2 HN.out _).mono ?_; rintro e w' ⟨am, cm, rfl, hx, hm⟩; have HB := Lib.hid (bel_of_ext hx); have HM := Lib.hid hm; have H := (Held.start w').empty 3 1; clear hx hm) | (go_at_call 67; refine (l1In_b _ _ _ _ h2 _).mono ?_; rintro e w' ⟨rfl, xe, rfl⟩) | (at_make; refine wpList_make_held rfl _ _ _ rfl elemInt (H.to (by repeat (first | exact ext_refl _ | (with_reducible assumption) | refine ext_ext' ?_ _ | refine ext_alloc' ?_ _ | refine ext_drew' ?_))) .i64 .i64 _ _ N rfl rfl rfl rfl (by omega) (by unfold maxLen; omega) ?_; intro w1 H1; have H := H1.zeros; clear H1; obtain ⟨k1, k2⟩ := H.cellRow hpos; have HH := Lib.hid (H.storeRow 0 1); clear H))
  go_loopw [7, 8, 9] (fun u7 u8 i wr => ∃ (r : Value) (g k : Nat), r = u7 ∧ u8 = .slice (some ⟨g, 0, none⟩) N N ∧ k ≤ m + 1 ∧ i = .int .i64 k ∧ Held w' wr [rowI r (seqTo W k), rowT g N (ssN W k)]) (fun _ _ i _ => m + 1 - (intOf i).toNat)
  case atStart => exact ⟨_, _, 0, rfl, rfl, Nat.zero_le _, rfl, HH.out.swap⟩
  case round =>
    clear HH k1 k2 H
    obtain ⟨r, g, k, rfl, rfl, hk, rfl, H⟩ := hrel
    by_cases hlt : k < m + 1
    · have hle : decide ((k : Int) ≤ m) = true := decide_eq_true (by omega)
      obtain ⟨k1, k2⟩ := H.swap.cellRow hpos
      clear k2
      go_wp2_with (first | (at_builtin; refine wpList_append_held (m := 1) rfl _ _ _ rfl elemInt (H.to (by repeat (first | exact ext_refl _ | (with_reducible assumption) | refine ext_ext' ?_ _ | refine ext_alloc' ?_ _ | refine ext_drew' ?_))) rfl rfl (Sl_new1 _ _ _) (one_lit _) (by rw [seqTo_len]; unfold maxLen; omega) (by rw [seqTo_len]; omega) ?_; intro v2 w2 H2; have H2 := H2.snoc; clear k1) | (at_make; refine wpList_make_held rfl _ _ _ rfl elemInt H2 .i64 .i64 _ _ N rfl rfl rfl rfl (by omega) (by unfold maxLen; omega) ?_; intro w3 H3))
      have H4 := H3.zeros
      clear H3 H2 H
      generalize w2.heap.size = g2 at H4 ⊢
      go_loopw [11] (fun i wr2 => ∃ a : Nat, a ≤ N ∧ i = .int .i64 a ∧ Held w' wr2 [rowT g2 N (ssA W (ssN W k) a), rowI v2 (seqTo W k ++ [ssN W k 0]), rowT g N (ssN W k)]) (fun i _ => N - (intOf i).toNat)
      case atStart => exact ⟨0, Nat.zero_le _, rfl, H4⟩
      case round =>
        clear H4
        obtain ⟨a, ha, rfl, H⟩ := hrel
        by_cases hlt2 : a < N
        · go_wp2_with fail
          go_loopw [12] (fun i wr3 => ∃ b : Nat, b ≤ N ∧ i = .int .i64 b ∧ Held w' wr3 [rowT g2 N (ssB W (ssN W k a) a (ssA W (ssN W k) a) b), rowI v2 (seqTo W k ++ [ssN W k 0]), rowT g N (ssN W k)]) (fun i _ => N - (intOf i).toNat)
          case atStart => exact ⟨0, Nat.zero_le _, rfl, H⟩
          case round =>
            clear H
            obtain ⟨b, hb, rfl, H⟩ := hrel
            by_cases hlt3 : b < N
            · obtain ⟨bm, om, hM⟩ := HM.out
              obtain ⟨m1, m2, a2, b2, o2, cap2, m3, hM2⟩ := hM a hlt2
              obtain ⟨m4, m5, m6⟩ := hM2 b hlt3
              have k1 := H.cellO m1 m3
              have k2 := H.cellO m4 m6
              obtain ⟨k3, k4⟩ := (H.pull 2 rfl).cellRow hlt2
              obtain ⟨k5, k6⟩ := H.cellRow hlt3
              clear hM hM2 k4 m3 m6
              go_wp2_with fail
              go_still_tail 20, (by kernel_rfl)
              change wpList _ _ _ _ _ wr.drew
              have H2 := H.to (w' := wr.drew) (by repeat (first | exact ext_refl _ | (with_reducible assumption) | refine ext_ext' ?_ _ | refine ext_alloc' ?_ _ | refine ext_drew' ?_))
              clear k1 k2 k3 k5 k6 H
              generalize wr.drew = w4 at H2 ⊢
              obtain ⟨k5, k6⟩ := H2.cellRow hlt3
              have H3 := Lib.hid fun x => H2.storeRow b x
              clear H2
              go_wp2_with fail
              go_roundw
              case rel => exact ⟨b + 1, hlt3, int_succ b, by rw [ssB_succ]; exact H3.out _⟩
              case measure => simp [intOf]; omega
            · rw [show b = N by omega] at H
              have HH := Lib.hid H
              clear H
              go_wp2_with fail
              go_roundw
              case rel => exact ⟨a + 1, hlt2, int_succ a, by rw [ssA_succ, ← HN.out]; exact HH.out⟩
              case measure => simp [intOf]; omega
        · rw [show a = N by omega] at H
          have HH := Lib.hid (H.pull 2 rfl).drop
          clear H
          go_wp2_with fail
          go_roundw
          case rel => exact ⟨v2, g2, k + 1, rfl, rfl, hlt, int_succ k, by rw [seqTo_succ, ssN_succ, ← HN.out]; exact HH.out.swap⟩
          case measure => simp [intOf]; omega
    · have hle : decide ((k : Int) ≤ m) = false := decide_eq_false (by omega)
      rw [show k = m + 1 by omega] at H
      have HH := Lib.hid (Held.base HB.out H)
      clear H
      go_wp2_with fail
      go_ret
      exact .got HF.out HH.out
theorem specCount_any (wd n : Int) (w : World) : Calls Try.prog 25 #[.int .i64 wd, .int .i64 n] w fun e w' => e = .returned (.int .i64 (scV wd n)) ∧ ∃ x, w' = ext w x := by
  cases h1 : okW wd n
  · have HF := Lib.hid (scV_no h1)
    have HS := Lib.hid (seqV_no h1)
    go_enter Try.func25, Try.ntmps25
    go_wp2_with (first | (go_at_call 27; refine (specSeq_any _ _ _).mono ?_; rintro e w' ⟨v', rfl, H⟩; rw [HS.out] at H; obtain ⟨a, c, rfl⟩ := H.rowV; have HX := Lib.hid (ext_of H.bel); clear H))
    go_ret
    exact ⟨ret_int HF.out.symm, HX.out⟩
  obtain ⟨W, m, rfl, rfl, b1, b2, b3⟩ := okW_nat h1
  have HF := Lib.hid (scV_yes h1)
  have HS := Lib.hid (seqV_yes h1)
  have hl : (seqTo W (m + 1)).length = m + 1 := seqTo_len _ _
  have hne : (((seqTo W (m + 1)).length : Int) == 0) = false := beq_eq_false_iff_ne.2 (by omega)
  have HN := Lib.hid (seqTo_nth (wd := W) (show m < m + 1 by omega))
  have hm : m < (seqTo W (m + 1)).length := by omega
  clear hl
  go_enter Try.func25, Try.ntmps25
  go_wp2_with (first | (go_at_call 27; refine (specSeq_any _ _ _).mono ?_; rintro e w' ⟨v', rfl, H⟩; rw [HS.out] at H; have HX := Lib.hid (ext_of H.bel); have HI := H.ints0; obtain ⟨a, b, o, cap, rfl, hl1, hl2, hl3, hlc⟩ := HI.opn; obtain ⟨q1, q2, q3⟩ := hlc m hm; clear hlc HI H))
  go_ret
  exact ⟨ret_int (HN.out.trans HF.out.symm), HX.out⟩
end
section
open Go.ChangeShapes Go.WideShapes Go.ChangeAt Go.RowKit
theorem l6In_b (W : Nat) (rows : List Int) (x y : Nat) (b : Bool) (v : Value) (w : World) (h : IntsAt w v rows) (hr : regB W rows = true) (hx : x < W) (hy : y < rows.length) (hb : (rowN rows y).testBit x = b) :
    Calls Try.prog 55 #[.agg #[.int .i64 W, v], .int .i64 x, .int .i64 y] w fun e w' => e = .returned (.bool b) ∧ ∃ x, w' = ext w x := by
  have := l6In_any W rows x y v w h hr
  rwa [hasB_at hx hy, hb] at this
set_option maxHeartbeats 2000000 in
theorem specCells_any (wd : Int) (rows : List Int) (v : Value) (w : World) (h : IntsAt w v rows) :
    Calls Try.prog 40 #[.agg #[.int .i64 wd, v]] w (CellsPost w (cellsV wd rows)) := by
  have h0 := h
  obtain ⟨a, b, o, cap, rfl, hc1, hc2, hc3, hcell⟩ := h.opn
  have h1 := h0.alloc (.cells #[.int .i64 wd, .slice a rows.length cap] 28)
  have H0 := (Held.start (w.alloc (.cells #[.int .i64 wd, .slice a rows.length cap] 28))).empty 64 2
  rw [World.size_alloc] at H0
  clear hcell
  cases hr : regB wd rows
  · have HF := Lib.hid (cellsV_no hr)
    go_enter Try.func40, Try.ntmps40
    go_wp2_with fail
    go_loopw [3, 4] (fun u i wr => u = .slice (some ⟨w.heap.size + 1, 0, none⟩) 0 0 ∧ i = .int .i64 0 ∧ Held (w.alloc (.cells #[.int .i64 wd, .slice a rows.length cap] 28)) wr [⟨.slice (some ⟨w.heap.size + 1, 0, none⟩) 0 0, 64, 2, 0, []⟩]) (fun _ _ _ => 0)
    case atStart => exact ⟨rfl, rfl, H0⟩
    case round =>
      clear H0
      obtain ⟨rfl, rfl, H⟩ := hrel
      obtain ⟨kb0, kb1⟩ := H.box2
      by_cases hp : 0 < rows.length
      · go_wp2_with (first | (go_at_call 54; refine (specIsRegion_any _ _ _ _ (h1.mono H.bel)).mono ?_; rintro e w' ⟨rfl, xe, rfl⟩))
        go_ret
        exact .empty HF.out (H.to (by repeat (first | exact ext_refl _ | (with_reducible assumption) | refine ext_ext' ?_ _ | refine ext_alloc' ?_ _ | refine ext_drew' ?_))).unbox
      · have hz : rows.length ≤ 0 := by omega
        go_wp2_with fail
        go_ret
        exact .empty HF.out H.unbox
  obtain ⟨W, rfl, hW1, hW2, hl1, hl2, hrow⟩ := regB_bd hr
  have HF := Lib.hid (cellsV_yes hr)
  have HR := Lib.hid hr
  clear hrow
  go_enter Try.func40, Try.ntmps40
  go_wp2_with fail
  go_loopw [3, 4] (fun u i wr => ∃ (r : Value) (k : Nat), r = u ∧ k ≤ rows.length ∧ i = .int .i64 k ∧ Held (w.alloc (.cells #[.int .i64 W, .slice a rows.length cap] 28)) wr [rowC r (cTo W rows k)]) (fun _ i _ => rows.length - (intOf i).toNat)
  case atStart => exact ⟨_, 0, rfl, Nat.zero_le _, rfl, H0⟩
  case round =>
    clear H0
    obtain ⟨r, y, rfl, hy, rfl, H⟩ := hrel
    obtain ⟨kb0, kb1⟩ := H.box2
    by_cases hlt : y < rows.length
    · go_wp2_with (first | (go_at_call 54; refine (specIsRegion_any _ _ _ _ (h1.mono H.bel)).mono ?_; rintro e w' ⟨rfl, xe, rfl⟩; have H2 := Lib.hid (H.ext xe); clear H kb0 kb1))
      go_loopw [3, 5] (fun u i wr2 => ∃ (r : Value) (x : Nat), r = u ∧ x ≤ W ∧ i = .int .i64 x ∧ Held (w.alloc (.cells #[.int .i64 W, .slice a rows.length cap] 28)) wr2 [rowC r (cRow rows y (cTo W rows y) x)]) (fun _ i _ => W - (intOf i).toNat)
      case atStart => exact ⟨_, 0, rfl, Nat.zero_le _, rfl, H2.out⟩
      case round =>
        clear H2
        obtain ⟨r, x, rfl, hx, rfl, H⟩ := hrel
        obtain ⟨kb0, kb1⟩ := H.box2
        by_cases hlt2 : x < W
        · have hlen := cRow_36 (W := W) (rows := rows) (y := y) (x := x) hW2 (by omega) hx
          cases hb : (rowN rows y).testBit x
          · have HB := Lib.hid hb
            clear hb
            go_wp2_with (first | (go_at_call 55; refine (l6In_b W rows _ _ false _ _ (h1.mono H.bel) HR.out hlt2 hlt HB.out).mono ?_; rintro e w' ⟨rfl, xe, rfl⟩))
            go_roundw
            case rel => exact ⟨r, x + 1, rfl, hlt2, int_succ x, by rw [cRow_f _ HB.out]; exact H.to (by repeat (first | exact ext_refl _ | (with_reducible assumption) | refine ext_ext' ?_ _ | refine ext_alloc' ?_ _ | refine ext_drew' ?_))⟩
            case measure => simp [intOf]; omega
          · have HB := Lib.hid hb
            clear hb
            go_wp2_with (first | (go_at_call 55; refine (l6In_b W rows _ _ true _ _ (h1.mono H.bel) HR.out hlt2 hlt HB.out).mono ?_; rintro e w' ⟨rfl, xe, rfl⟩) | (at_builtin; refine wpList_append_held (m := 1) rfl _ _ _ rfl elemCell (H.to (by repeat (first | exact ext_refl _ | (with_reducible assumption) | refine ext_ext' ?_ _ | refine ext_alloc' ?_ _ | refine ext_drew' ?_))) rfl rfl (Sl_cell _ _ _ _) (one_cell _ _) (by unfold maxLen; omega) (by omega) ?_; intro v' w' H; have H := H.snocC))
            go_roundw
            case rel => exact ⟨v', x + 1, rfl, hlt2, int_succ x, by rw [cRow_t _ HB.out]; exact H⟩
            case measure => simp [intOf]; omega
        · rw [show x = W by omega, ← cTo_succ] at H
          have HH := Lib.hid H
          clear H
          go_wp2_with fail
          go_roundw
          case rel => exact ⟨r, y + 1, rfl, hlt, int_succ y, HH.out⟩
          case measure => simp [intOf]; omega
    · rw [show y = rows.length by omega] at H
      have HH := Lib.hid H.unbox
      clear H
      go_wp2_with fail
      go_ret
      exact .got HF.out HH.out
end
section
open Go.ChangeShapes Go.WideShapes Go.ChangeAt Go.RowKit
def areaV (wd : Int) (rows : List Int) : Int := if regB wd rows then (cellsV wd rows).length else -1
theorem specIsReg_bA (wd : Int) (rows : List Int) (b : Bool) (hb : regB wd rows = b) (v : Value) (w : World) (h : IntsAt w v rows) :
    Calls Try.prog 54 #[.agg #[.int .i64 wd, v]] w fun e w' => e = .returned (.bool b) ∧ ∃ x, w' = ext w x := hb ▸ specIsRegion_any wd rows v w h
theorem specArea_any (wd : Int) (rows : List Int) (v : Value) (w : World) (h : IntsAt w v rows) :
    Calls Try.prog 20 #[.agg #[.int .i64 wd, v]] w fun e w' => e = .returned (.int .i64 (areaV wd rows)) ∧ Held w w' [] := by
  have h0 := h
  obtain ⟨a, b, o, cap, rfl, hc1, hc2, hc3, hcell⟩ := h.opn
  have HI := Lib.hid h0
  have H0 := (Held.start w).newBox2 28 (.int .i64 wd) (.slice a rows.length cap)
  clear hcell h h0
  cases hr : regB wd rows
  · have HF := Lib.hid (show areaV wd rows = -1 by simp [areaV, hr])
    rw [HF.out]
    go_enter Try.func20, Try.ntmps20
    go_wp2_with (first | (go_at_call 54; refine (specIsReg_bA _ _ _ hr _ _ (HI.out.mono (bel_of_ext (by repeat (first | exact ext_refl _ | (with_reducible assumption) | refine ext_ext' ?_ _ | refine ext_alloc' ?_ _ | refine ext_drew' ?_))))).mono ?_; rintro e w' ⟨rfl, xe, rfl⟩))
    go_ret
    exact ⟨rfl, ⟨(H0.to (by repeat (first | exact ext_refl _ | (with_reducible assumption) | refine ext_ext' ?_ _ | refine ext_alloc' ?_ _ | refine ext_drew' ?_))).bel, fun r hr => (nomatch hr), .nil⟩⟩
  · have HF := Lib.hid (show areaV wd rows = ((cellsV wd rows).length : Nat) by simp [areaV, hr])
    rw [HF.out]
    go_enter Try.func20, Try.ntmps20
    go_wp2_with (first | (go_at_call 54; refine (specIsReg_bA _ _ _ hr _ _ (HI.out.mono (bel_of_ext (by repeat (first | exact ext_refl _ | (with_reducible assumption) | refine ext_ext' ?_ _ | refine ext_alloc' ?_ _ | refine ext_drew' ?_))))).mono ?_; rintro e w' ⟨rfl, xe, rfl⟩) | (go_at_call 40; refine (specCells_any _ _ _ _ (HI.out.mono (bel_of_ext (by repeat (first | exact ext_refl _ | (with_reducible assumption) | refine ext_ext' ?_ _ | refine ext_alloc' ?_ _ | refine ext_drew' ?_))))).mono ?_; rintro e w5 ⟨u, rfl, K⟩; obtain ⟨ua, uc, rfl⟩ := K.rowCV))
    go_ret
    exact ⟨rfl, ⟨((H0.to (by repeat (first | exact ext_refl _ | (with_reducible assumption) | refine ext_ext' ?_ _ | refine ext_alloc' ?_ _ | refine ext_drew' ?_))).join K).bel, fun r hr => (nomatch hr), .nil⟩⟩
end
end Go.Proofs.Ytchcepihmphdmaa
