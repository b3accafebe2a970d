/- StripRecurrence of the program and of the reference. -/
import Derived.Test.YtklikfgikeicoaaRows
import Derived.WalkKit
import Derived.ProofKit
import Derived.OpenShut
import Derived.BigQuiet
import Derived.Lib.Hide
import Derived.Deep.QuietTactic
import Derived.Outline
import Derived.Test.YtklikfgikeicoaaTransfer
import Derived.Test.YtklikfgikeicoaaChars
namespace Go.Proofs.Ytklikfgikeicoaa
open Go.ChangeShapes Go.WideShapes Go.ChangeAt Go.RowKit
set_option linter.unusedVariables false
def recV (wd : Int) : Option (List Int) := if btw wd 1 3 then charV (matTo wd.toNat (shlN 1 wd.toNat)) else none
theorem recV_no {wd : Int} (h : btw wd 1 3 = false) : recV wd = none := by simp [recV, h]
theorem recV_yes {n : Nat} (h : btw n 1 3 = true) : recV n = charV (matTo n (shlN 1 n)) := by simp [recV, h]
theorem recV_len (wd : Int) : ((recV wd).getD []).length ≤ 8 := by
  unfold recV
  split
  · exact charV_len _
  · simp
theorem mat_rows {w w' : World} {n : Nat} {e : Ending} (h : btw n 1 4 = true) (K : RowsPost w (matV n) e w') : ∃ a cap, e = .returned (.tuple #[.slice a (matTo n (shlN 1 n)).length cap, .bool true]) ∧ (∃ x, w' = ext w x) ∧ RowsAt w' (.slice a (matTo n (shlN 1 n)).length cap) (matTo n (shlN 1 n)) := by
  obtain ⟨v', vs, he, hl, H⟩ := K
  rw [matV_yes h] at he hl H
  simp only [Option.getD_some, Option.isSome_some] at he hl H
  have R := Held.rows (L := []) (by rw [List.append_nil]; exact H) hl
  have R2 := R
  obtain ⟨a, b, o, cap, us, hv, _⟩ := R.opn
  subst hv
  exact ⟨a, cap, he, ext_of H.bel, R2⟩
theorem mat_no {w w' : World} {wd : Int} {e : Ending} (h : btw wd 1 4 = false) (K : RowsPost w (matV wd) e w') : ∃ v, e = .returned (.tuple #[v, .bool false]) ∧ ∃ x, w' = ext w x := by
  obtain ⟨v', vs, he, hl, H⟩ := K
  rw [matV_no h] at he
  exact ⟨v', he, ext_of H.bel⟩
theorem ExtPost.of {w w1 w' : World} {r q : Option (List Int)} {v : Value} (h : r = q) (hx : ∃ x, w1 = ext w x) (hx2 : ∃ x, w' = ext w1 x) (ho : OwnI w' w1.heap.size v (q.getD [])) : ExtPost w r (.returned (.tuple #[v, .bool q.isSome])) w' := by
  subst h; exact ⟨_, rfl, ext_trans hx hx2, own_base ho (bel_of_ext hx).size⟩
theorem implRec_any (wd : Int) (w : World) : Calls Try.prog 26 #[.int .i64 wd] w (ExtPost w (recV wd)) := by
  cases h1 : btw wd 1 3
  · have HF := Lib.hid (recV_no h1)
    go_enter Try.func26, Try.ntmps26
    go_wp2_with (first | (go_at_call 27; refine (between_b _ _ _ _ h1 _).mono ?_; rintro e w' ⟨rfl, xe, rfl⟩))
    go_ret2
    exact .fail HF.out (by repeat (first | exact ext_refl _ | (with_reducible assumption) | refine ext_ext' ?_ _ | refine ext_alloc' ?_ _ | refine ext_drew' ?_))
  obtain ⟨b1, b2⟩ := btw_iff.1 h1
  obtain ⟨n, rfl⟩ : ∃ n : Nat, wd = n := ⟨wd.toNat, by omega⟩
  have h4 : btw n 1 4 = true := btw_iff.2 ⟨b1, by omega⟩
  have HF := Lib.hid (recV_yes h1)
  have H4 := Lib.hid h4
  clear h4
  go_enter Try.func26, Try.ntmps26
  go_wp2_with (first | (go_at_call 27; refine (between_b _ _ _ _ h1 _).mono ?_; rintro e w' ⟨rfl, xe, rfl⟩) | (go_at_call 11; refine (implMat_any _ _).mono ?_; rintro e w' K; obtain ⟨a, cap, rfl, hx, R⟩ := mat_rows H4.out K; have HX := Lib.hid hx; have R := Lib.hid R; clear hx K) | (go_at_call 38; refine (implChar_any _ _ _ R.out).mono ?_; rintro e w' ⟨v', rfl, hx2, own⟩; have HX2 := Lib.hid hx2; clear hx2))
  go_ret2
  obtain ⟨xe, rfl⟩ := HX.out
  exact .of HF.out (by repeat (first | exact ext_refl _ | (with_reducible assumption) | refine ext_ext' ?_ _ | refine ext_alloc' ?_ _ | refine ext_drew' ?_)) HX2.out own
theorem specRec_any (wd : Int) (w : World) : Calls Try.prog 25 #[.int .i64 wd] w (ExtPost w (recV wd)) := by
  cases h1 : btw wd 1 4
  · have HF := Lib.hid (recV_no (wd := wd) (by cases h : btw wd 1 3 with | false => rfl | true => have := btw_iff.1 h; rw [← h1]; exact (btw_iff.2 ⟨by omega, by omega⟩).symm))
    have H1 := Lib.hid h1
    clear h1
    go_enter Try.func25, Try.ntmps25
    go_wp2_with (first | (go_at_call 10; refine (specMat_any _ _).mono ?_; rintro e w' K; obtain ⟨v, rfl, xe, rfl⟩ := mat_no H1.out K; clear K))
    go_ret2
    exact .failE HF.out (((Held.start w).to (by repeat (first | exact ext_refl _ | (with_reducible assumption) | refine ext_ext' ?_ _ | refine ext_alloc' ?_ _ | refine ext_drew' ?_))).empty _ _)
  obtain ⟨b1, b2⟩ := btw_iff.1 h1
  obtain ⟨n, rfl⟩ : ∃ n : Nat, wd = n := ⟨wd.toNat, by omega⟩
  have H4 := Lib.hid h1
  clear h1
  cases h3 : btw (n : Int) 1 3
  · have HF := Lib.hid (recV_no h3)
    have hgt : 3 < n := by have := btw_not.1 h3; omega
    have H3 := Lib.hid h3
    clear h3
    go_enter Try.func25, Try.ntmps25
    go_wp2_with (first | (go_at_call 10; refine (specMat_any _ _).mono ?_; rintro e w' K; obtain ⟨a, cap, rfl, ⟨xe, rfl⟩, R⟩ := mat_rows H4.out K; clear K R))
    go_ret2
    exact .failE HF.out (((Held.start w).to (by repeat (first | exact ext_refl _ | (with_reducible assumption) | refine ext_ext' ?_ _ | refine ext_alloc' ?_ _ | refine ext_drew' ?_))).empty _ _)
  have HF := Lib.hid (recV_yes h3)
  obtain ⟨_, b3⟩ := btw_iff.1 h3
  have H3 := Lib.hid h3
  clear h3
  go_enter Try.func25, Try.ntmps25
  go_wp2_with (first | (go_at_call 10; refine (specMat_any _ _).mono ?_; rintro e w' K; obtain ⟨a, cap, rfl, hx, R⟩ := mat_rows H4.out K; have HX := Lib.hid hx; have R := Lib.hid R; clear hx K) | (go_at_call 37; refine (specChar_any _ _ _ R.out).mono ?_; rintro e w' ⟨v', rfl, hx2, own⟩; have HX2 := Lib.hid hx2; clear hx2))
  go_ret2
  obtain ⟨xe, rfl⟩ := HX.out
  exact .of HF.out (by repeat (first | exact ext_refl _ | (with_reducible assumption) | refine ext_ext' ?_ _ | refine ext_alloc' ?_ _ | refine ext_drew' ?_)) HX2.out own
end Go.Proofs.Ytklikfgikeicoaa
