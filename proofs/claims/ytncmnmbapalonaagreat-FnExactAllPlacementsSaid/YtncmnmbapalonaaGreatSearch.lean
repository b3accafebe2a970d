/- sort.Search: binary search over a test that may lay blocks. -/
import Derived.Test.YtncmnmbapalonaaGreatRows
import Derived.WalkKit
import Derived.ProofKit
import Derived.OpenShut
import Derived.BigQuiet
import Derived.Lib.Hide
import Derived.Deep.QuietTactic
import Derived.Outline
import Derived.Test.YtncmnmbapalonaaGreatBitops
namespace Go.Proofs.YtncmnmbapalonaaGreat
open Go.ChangeShapes Go.WideShapes Go.ChangeAt Go.RowKit
set_option linter.unusedVariables false
set_option maxHeartbeats 1000000 in
theorem search_any (f : Nat) (cb : Array Value) (n : Nat) (hn : n ≤ 1000) (p : Nat → Bool) (w : World) (eg : ∀ args w, (callFunc f args).run Tryz.prog w = .ok (.enter f args) w)
    (hf : ∀ w', (∃ x, w' = ext w x) → ∀ i : Nat, i < n → Calls Tryz.prog f (#[.int .i64 i] ++ cb) w' fun e w'' => e = .returned (.bool (p i)) ∧ ∃ x, w'' = ext w' x) (hmono : ∀ a b, a ≤ b → b < n → p a = true → p b = true) :
    Calls Tryz.prog 83 #[.int .i64 n, .func (.func f) #[] cb] w fun e w' => ∃ k : Nat, e = .returned (.int .i64 k) ∧ k ≤ n ∧ (∀ i, i < k → p i = false) ∧ (∀ i, k ≤ i → i < n → p i = true) ∧ ∃ x, w' = ext w x := by
  have HF := Lib.hid hf
  have HM := Lib.hid hmono
  clear hf hmono
  go_enter Tryz.func83, Tryz.ntmps83
  go_wp2_with fail
  go_loopw [5, 6] (fun ui uj wr => ∃ i j : Nat, ui = .int .i64 i ∧ uj = .int .i64 j ∧ i ≤ j ∧ j ≤ n ∧ (∀ q, q < i → p q = false) ∧ (∀ q, j ≤ q → q < n → p q = true) ∧ ∃ x, wr = ext w x) (fun ui uj _ => (intOf uj).toNat - (intOf ui).toNat)
  case atStart => exact ⟨0, n, rfl, rfl, Nat.zero_le _, Nat.le_refl _, fun q hq => by omega, fun q h1 h2 => by omega, (by repeat (first | exact ext_refl _ | (with_reducible assumption) | refine ext_ext' ?_ _ | refine ext_alloc' ?_ _ | refine ext_drew' ?_))⟩
  case round =>
    obtain ⟨i, j, rfl, rfl, hij, hjn, hlo, hhi, x, rfl⟩ := hrel
    have HL := Lib.hid hlo
    have HH := Lib.hid hhi
    clear hlo hhi
    by_cases hlt : i < j
    · obtain ⟨h, hh⟩ : ∃ h, (i + j) / 2 = h := ⟨_, rfl⟩
      have hc := HF.out (ext w x) (by repeat (first | exact ext_refl _ | (with_reducible assumption) | refine ext_ext' ?_ _ | refine ext_alloc' ?_ _ | refine ext_drew' ?_)) h (by omega)
      have h2 : ((i : Int) + j) / 2 = (h : Int) := by omega
      cases hp : p h
      · rw [hp] at hc
        have HC := Lib.hid hc
        have HP := Lib.hid hp
        clear hc hp
        go_wp2_with fail
        refine HC.out.mono ?_
        rintro e w' ⟨rfl, xe, rfl⟩
        go_wp2_with fail
        go_roundw
        case rel =>
          refine ⟨h + 1, j, int_succ h, rfl, by omega, hjn, fun q hq => ?_, HH.out, (by repeat (first | exact ext_refl _ | (with_reducible assumption) | refine ext_ext' ?_ _ | refine ext_alloc' ?_ _ | refine ext_drew' ?_))⟩
          cases hpq : p q
          · rfl
          · have := HM.out q h (by omega) (by omega) hpq
            rw [HP.out] at this; cases this
        case measure => simp [intOf]; omega
      · rw [hp] at hc
        have HC := Lib.hid hc
        have HP := Lib.hid hp
        clear hc hp
        go_wp2_with fail
        refine HC.out.mono ?_
        rintro e w' ⟨rfl, xe, rfl⟩
        go_wp2_with fail
        go_roundw
        case rel => exact ⟨i, h, rfl, rfl, by omega, by omega, HL.out, fun q h1 h2 => HM.out h q h1 h2 HP.out, (by repeat (first | exact ext_refl _ | (with_reducible assumption) | refine ext_ext' ?_ _ | refine ext_alloc' ?_ _ | refine ext_drew' ?_))⟩
        case measure => simp [intOf]; omega
    · have HK := Lib.hid (show i = j by omega)
      go_wp2_with fail
      go_ret
      exact ⟨i, rfl, by omega, HL.out, fun q h1 h2 => HH.out q (by have := HK.out; omega) h2, (by repeat (first | exact ext_refl _ | (with_reducible assumption) | refine ext_ext' ?_ _ | refine ext_alloc' ?_ _ | refine ext_drew' ?_))⟩
end Go.Proofs.YtncmnmbapalonaaGreat
