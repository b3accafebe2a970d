/- Part 8 of a proof: echwalk, redplain, signed, invwalk, redwalk, signspec, lows, fwplain. -/
import Derived.Test.YtmehmpammjcnkabGreatRows
import Derived.WalkKit
import Derived.ProofKit
import Derived.OpenShut
import Derived.BigQuiet
import Derived.Lib.Hide
import Derived.Deep.QuietTactic
import Derived.Outline
import Derived.StillTailTactics
import Derived.Test.YtmehmpammjcnkabGreatMg1
import Derived.Test.YtmehmpammjcnkabGreatMg2
import Derived.Test.YtmehmpammjcnkabGreatMg3
import Derived.Test.YtmehmpammjcnkabGreatMg4
import Derived.Test.YtmehmpammjcnkabGreatMg5
import Derived.Test.YtmehmpammjcnkabGreatMg6
import Derived.Test.YtmehmpammjcnkabGreatMg7
namespace Go.Proofs.YtmehmpammjcnkabGreat
set_option linter.unusedVariables false
section
open Go.ChangeShapes Go.WideShapes Go.ChangeAt Go.RowKit
def EchPost (W0 : World) (g cap m n : Nat) (p : Int) (M : Mat) (cols : Nat) (L : List Row) (e : Ending) (w' : World) : Prop := ∃ v' ρ κ, e = .returned v' ∧ MH W0 w' g cap ρ κ m n (gsTo p m M cols).1 (rowI v' (castL (gsTo p m M cols).2) :: L)
set_option maxRecDepth 100000 in
set_option maxHeartbeats 16000000 in
theorem ech_any (W0 : World) (g cap m n cols P : Nat) (M : Mat) (L : List Row) (hP : primeB P = true) (hP5 : P ≤ 5) (hR : Resid P m n M) (hc : cols ≤ n) (hm : m ≤ 100000) (hn : n ≤ 100000) (ρ κ : Nat → Nat) (w : World) (H : MH W0 w g cap ρ κ m n M L) :
    Calls Tryz.prog 36 #[.slice (some ⟨g, 0, none⟩) m cap, .int .i64 cols, .int .i64 P] w (EchPost W0 g cap m n P M cols L) := by
  have hpp := primeP_of hP
  have hP0 : (0 : Int) < P := by rcases hpp with h | h | h <;> omega
  have hP1 : 2 ≤ P := by rcases hpp with h | h | h <;> omega
  haveI : Pos1 P := ⟨by omega⟩
  have HPP := Lib.hid hpp
  have HRES := Lib.hid hR
  have HH := Lib.hid (Held.front H.nilI MO_last.symm)
  clear H hpp hR hP
  go_enter Tryz.func36, Tryz.ntmps36
  go_wp2_with fail
  go_loopw [7, 8] (fun u i wr => ∃ (pv : Value) (c : Nat) (ρ κ : Nat → Nat), pv = u ∧ c ≤ cols ∧ i = .int .i64 c ∧ MH W0 wr g cap ρ κ m n (gsTo P m M c).1 (rowI pv (castL (gsTo P m M c).2) :: L)) (fun _ i _ => cols - (intOf i).toNat)
  case atStart => exact ⟨_, 0, ρ, κ, rfl, Nat.zero_le _, rfl, HH.out⟩
  case round =>
    clear HH
    obtain ⟨pv, c, ρ, κ, rfl, hck, rfl, H⟩ := hrel
    have hred := gsTo_red HPP.out HRES.out c (by omega)
    obtain ⟨A, piv, hg⟩ : ∃ A piv, gsTo P m M c = (A, piv) := ⟨_, _, rfl⟩
    have HG := Lib.hid hg
    rw [hg] at hred H
    simp only at hred H
    have HRED := Lib.hid hred
    have hle := hred.le
    obtain ⟨pa, pc, epv⟩ := (H.front MO_last).rowVN
    have HEPV := Lib.hid epv
    by_cases hlt : c < cols
    · by_cases htm : piv.length < m
      · have HH := Lib.hid H
        have hcn : c < n := by omega
        clear hred hg H
        subst epv
        go_wp2_with fail
        go_loopw [10] (fun u w2 => ∃ k : Nat, u = .int .i64 k ∧ piv.length ≤ k ∧ k ≤ m ∧ Hid (∀ q, piv.length ≤ q → q < k → A q c = 0) ∧ w2 = wr) (fun u _ => m - (intOf u).toNat)
        case atStart => exact ⟨piv.length, rfl, Nat.le_refl _, by omega, Lib.hid (fun q h1 h2 => by omega), rfl⟩
        case round =>
          obtain ⟨k, rfl, hk1, hk2, HZ, rfl⟩ := hrel
          by_cases hkm : k < m
          · obtain ⟨a1, a2, a3⟩ := MO_cell HH.out hkm
            obtain ⟨b1, b2, b3, b4⟩ := MO_row HH.out hkm hcn
            obtain ⟨x, hx⟩ : ∃ x, A k c = x := ⟨_, rfl⟩
            rw [hx] at b1
            have HX := Lib.hid hx
            have hxb := HRED.out.res k hkm c hcn
            rw [hx] at hxb
            clear b4 hx
            by_cases hx0 : x = 0
            · have hz0 : (x == (0 : Int)) = true := beq_iff_eq.2 hx0
              have HX0 := Lib.hid hx0
              clear hx0
              go_wp2_with fail
              go_roundw
              case rel => exact ⟨k + 1, int_succ k, by omega, hkm, Lib.hid (fun q h1 h2 => by
                rcases Nat.lt_or_ge q k with e | e
                · exact HZ.out q h1 e
                · have e2 : q = k := by omega
                  rw [e2, HX.out, HX0.out]), by first | rfl | trivial⟩
              case measure => simp [intOf]; omega
            · have hz0 : (x == (0 : Int)) = false := beq_eq_false_iff_ne.2 hx0
              have hke : ((k : Int) == (m : Int)) = false := beq_eq_false_iff_ne.2 (by omega)
              have HGS := Lib.hid (gs_some HG.out hk1 hkm HZ.out (by rw [HX.out]; exact hx0))
              have hinv := invP_spec HPP.out hx0 hxb.1 hxb.2
              rw [HX.out] at HGS
              obtain ⟨V, hV⟩ : ∃ V, invP (P : Int) x = V := ⟨_, rfl⟩
              rw [hV] at HGS hinv
              have HINV := Lib.hid hinv
              obtain ⟨hv1, hv2, hv3⟩ : 1 ≤ V ∧ V ≤ 4 ∧ V < P := ⟨hinv.2.1, hinv.2.2.1, hinv.2.2.2.1⟩
              have HM1 := Lib.hid (swap_res HRED.out.res htm hkm)
              have HM1x := Lib.hid (show swapR A piv.length k piv.length c = x by rw [← HX.out]; simp [swapR])
              have HM2 := Lib.hid (scale_res (t := piv.length) (v := V) hP0 HM1.out)
              clear hx0 hV hinv a1 a2 a3 b1 b2 b3
              obtain ⟨a1, a2, a3⟩ := MO_cell HH.out hkm
              obtain ⟨b1, b2, b3, _⟩ := MO_row HH.out hkm hcn
              rw [HX.out] at b1
              go_wp2_with fail
              clear a1 a2 a3 b1 b2 b3
              refine wp_region_heldS (S := fun _ => True) (by kernel_rfl) ?_
              have HB := HH.out.to (w' := World.drew _) (ext_drew' (ext_refl _))
              clear HH
              generalize World.drew _ = wd at HB ⊢
              obtain ⟨a1, a2, a3⟩ := MO_cell HB hkm
              obtain ⟨t1, t2, t3⟩ := MO_cell HB htm
              refine' takeS (i := 0) (v := _) rfl (by kernel_rfl) (by kernel_rfl) (by kernel_rfl) (fun _ _ _ h => h) (by kernel_rfl) (fun wb hwb => ?_) trivial ?_
              rotate_left
              · (go_simp; try rfl)
              try simp only [List.getElem_toArray]
              try simp only [List.getElem_cons_succ]
              try simp only [List.getElem_cons_zero]
              try simp only [Act.put]
              try simp only [List.setIfInBounds_toArray]
              try simp only [List.set_cons_succ]
              try simp only [List.set_cons_zero]
              refine' takeS (i := 1) (v := _) rfl (by kernel_rfl) (by kernel_rfl) (by kernel_rfl) (fun _ _ _ h => h) (by kernel_rfl) (fun wb hwb => ?_) trivial ?_
              rotate_left
              · (go_simp; try rfl)
              try simp only [List.getElem_toArray]
              try simp only [List.getElem_cons_succ]
              try simp only [List.getElem_cons_zero]
              try simp only [Act.put]
              try simp only [List.setIfInBounds_toArray]
              try simp only [List.set_cons_succ]
              try simp only [List.set_cons_zero]
              refine' takeS (i := 2) (v := _) rfl (by kernel_rfl) (by kernel_rfl) (by kernel_rfl) (fun _ _ _ h => h) (by kernel_rfl) (fun wb hwb => ?_) trivial ?_
              rotate_left
              · (go_simp; try rfl)
              try simp only [List.getElem_toArray]
              try simp only [List.getElem_cons_succ]
              try simp only [List.getElem_cons_zero]
              try simp only [Act.put]
              try simp only [List.setIfInBounds_toArray]
              try simp only [List.set_cons_succ]
              try simp only [List.set_cons_zero]
              refine' takeS (i := 3) (v := _) rfl (by kernel_rfl) (by kernel_rfl) (by kernel_rfl) (fun _ _ _ h => h) (by kernel_rfl) (fun wb hwb => ?_) trivial ?_
              rotate_left
              · (go_simp; try rfl)
              try simp only [List.getElem_toArray]
              try simp only [List.getElem_cons_succ]
              try simp only [List.getElem_cons_zero]
              try simp only [Act.put]
              try simp only [List.setIfInBounds_toArray]
              try simp only [List.set_cons_succ]
              try simp only [List.set_cons_zero]
              refine' takeS (i := 4) (v := _) rfl (by kernel_rfl) (by kernel_rfl) (by kernel_rfl) (fun _ _ _ h => h) (by kernel_rfl) (fun wb hwb => ?_) trivial ?_
              rotate_left
              · (go_simp; try rfl)
              try simp only [List.getElem_toArray]
              try simp only [List.getElem_cons_succ]
              try simp only [List.getElem_cons_zero]
              try simp only [Act.put]
              try simp only [List.setIfInBounds_toArray]
              try simp only [List.set_cons_succ]
              try simp only [List.set_cons_zero]
              refine' takeS (i := 5) (v := _) rfl (by kernel_rfl) (by kernel_rfl) (by kernel_rfl) (fun _ _ _ h => h) (by kernel_rfl) (fun wb hwb => ?_) trivial ?_
              rotate_left
              · (go_simp; try rfl)
              try simp only [List.getElem_toArray]
              try simp only [List.getElem_cons_succ]
              try simp only [List.getElem_cons_zero]
              try simp only [Act.put]
              try simp only [List.setIfInBounds_toArray]
              try simp only [List.set_cons_succ]
              try simp only [List.set_cons_zero]
              refine' takeS (i := 6) (v := _) rfl (by kernel_rfl) (by kernel_rfl) (by kernel_rfl) (fun _ _ _ h => h) (by kernel_rfl) (fun wb hwb => ?_) trivial ?_
              rotate_left
              · (go_simp; try rfl)
              try simp only [List.getElem_toArray]
              try simp only [List.getElem_cons_succ]
              try simp only [List.getElem_cons_zero]
              try simp only [Act.put]
              try simp only [List.setIfInBounds_toArray]
              try simp only [List.set_cons_succ]
              try simp only [List.set_cons_zero]
              refine' takeS (i := 8) (v := _) rfl (by kernel_rfl) (by kernel_rfl) (by kernel_rfl) (fun _ _ _ h => h) (by kernel_rfl) (fun wb hwb => ?_) trivial ?_
              rotate_left
              · (go_simp; try rfl)
              try simp only [List.getElem_toArray]
              try simp only [List.getElem_cons_succ]
              try simp only [List.getElem_cons_zero]
              try simp only [Act.put]
              try simp only [List.setIfInBounds_toArray]
              try simp only [List.set_cons_succ]
              try simp only [List.set_cons_zero]
              refine' takeS (i := 9) (v := _) rfl (by kernel_rfl) (by kernel_rfl) (by kernel_rfl) (fun _ _ _ h => h) (by kernel_rfl) (fun wb hwb => ?_) trivial ?_
              rotate_left
              · (go_simp; try rfl)
              try simp only [List.getElem_toArray]
              try simp only [List.getElem_cons_succ]
              try simp only [List.getElem_cons_zero]
              try simp only [Act.put]
              try simp only [List.setIfInBounds_toArray]
              try simp only [List.set_cons_succ]
              try simp only [List.set_cons_zero]
              refine' takeS (i := 10) (v := _) rfl (by kernel_rfl) (by kernel_rfl) (by kernel_rfl) (fun _ _ _ h => h) (by kernel_rfl) (fun wb hwb => ?_) trivial ?_
              rotate_left
              · (go_simp; try rfl)
              try simp only [List.getElem_toArray]
              try simp only [List.getElem_cons_succ]
              try simp only [List.getElem_cons_zero]
              try simp only [Act.put]
              try simp only [List.setIfInBounds_toArray]
              try simp only [List.set_cons_succ]
              try simp only [List.set_cons_zero]
              refine forkE (i := 7) (j := 11) rfl rfl (by kernel_rfl) (by kernel_rfl) (by kernel_rfl) (fun K' hK' => ?_) (fun K' hK' => ?_)
              · go_wp2_with fail
                refine hK'.out _ _ trivial ?_
                clear hK' K'
                refine nextE (i := 11) rfl (by kernel_rfl) (by kernel_rfl) (fun K' hK' => ?_)
                go_wp2_with fail
                refine hK'.out _ _ trivial ?_
                clear hK' K'
                refine' takeS (i := 12) (v := _) rfl (by kernel_rfl) (by kernel_rfl) (by kernel_rfl) (fun _ _ _ h => h) (by kernel_rfl) (fun wb hwb => ?_) trivial ?_
                rotate_left
                · (go_simp; try rfl)
                try simp only [List.getElem_toArray]
                try simp only [List.getElem_cons_succ]
                try simp only [List.getElem_cons_zero]
                try simp only [Act.put]
                try simp only [List.setIfInBounds_toArray]
                try simp only [List.set_cons_succ]
                try simp only [List.set_cons_zero]
                have HB2 := MO_put HB piv.length (slR ρ κ n k)
                obtain ⟨u1, u2, u3⟩ := MO_cell HB2 hkm
                have HB3 : MH W0 _ g cap (sw piv.length k ρ) (sw piv.length k κ) m n (swapR A piv.length k) _ := MO_swap htm hkm (MO_put HB2 k (slR ρ κ n piv.length))
                have HB4 := Lib.hid HB3
                clear HB HB2 HB3
                refine nextE (i := 13) rfl (by kernel_rfl) (by kernel_rfl) (fun K' hK' => ?_)
                go_wp2_with fail
                refine hK'.out _ _ trivial ?_
                clear hK' K'
                refine' takeS (i := 14) (v := _) rfl (by kernel_rfl) (by kernel_rfl) (by kernel_rfl) (fun _ _ _ h => h) (by kernel_rfl) (fun wb hwb => ?_) trivial ?_
                rotate_left
                · (go_simp; try rfl)
                try simp only [List.getElem_toArray]
                try simp only [List.getElem_cons_succ]
                try simp only [List.getElem_cons_zero]
                try simp only [Act.put]
                try simp only [List.setIfInBounds_toArray]
                try simp only [List.set_cons_succ]
                try simp only [List.set_cons_zero]
                refine nextE (i := 15) rfl (by kernel_rfl) (by kernel_rfl) (fun K' hK' => ?_)
                go_wp2_with fail
                refine hK'.out _ _ trivial ?_
                clear hK' K'
                refine wpAnyH_done (by kernel_rfl) ?_ _
                clear a1 a2 a3 t1 t2 t3 u1 u2 u3
                generalize World.setCell (World.setCell _ _ _) _ _ = w2 at HB4 ⊢
                obtain ⟨ρ2, hρ⟩ : ∃ ρ2, sw piv.length k ρ = ρ2 := ⟨_, rfl⟩
                obtain ⟨κ2, hκ⟩ : ∃ κ2, sw piv.length k κ = κ2 := ⟨_, rfl⟩
                obtain ⟨M1, hM1⟩ : ∃ M1, swapR A piv.length k = M1 := ⟨_, rfl⟩
                rw [hρ, hκ, hM1] at HB4
                rw [hM1] at HM1 HM1x HGS HM2
                clear hρ hκ hM1
                obtain ⟨a1, a2, a3⟩ := MO_cell HB4.out htm
                obtain ⟨b1, b2, b3, _⟩ := MO_row HB4.out htm hcn
                rw [HM1x.out] at b1
                go_wp2_with fail
                go_loopw [11] (fun u w3 => ∃ y : Int, u = .int .i64 y ∧ 1 ≤ y ∧ y ≤ V ∧ w3 = w2) (fun u _ => 5 - (intOf u).toNat)
                case atStart => exact ⟨1, rfl, by omega, hv1, rfl⟩
                case round =>
                  obtain ⟨y, rfl, hy1, hy2, rfl⟩ := hrel
                  have hms := mul_small (a := y) (b := x) (by omega) (by omega) (by omega) (by omega)
                  have w1 : IntKind.i64.wrap (y * x) = y * x := IntWalk.i64_in _ (by omega)
                  have htm' : (y * x).tmod (P : Int) = x * y % (P : Int) := by rw [Int.tmod_eq_emod_of_nonneg hms.1, Int.mul_comm]
                  by_cases hyV : y = V
                  · have hne : (x * y % (P : Int) != 1) = false := by rw [hyV, HINV.out.1]; rfl
                    obtain rfl : V = y := hyV.symm
                    clear hyV
                    go_wp2_with fail
                    clear w1 htm' hne hms hy1 hy2 a1 a2 a3 b1 b2 b3
                    go_loopw [84] (fun u w3 => ∃ j : Nat, u = .int .i64 j ∧ j ≤ n ∧ MH W0 w3 g cap ρ2 κ2 m n (scTo P M1 piv.length V j) (rowI (.slice pa piv.length pc) (castL piv) :: L)) (fun u _ => n - (intOf u).toNat)
                    case atStart => exact ⟨0, rfl, Nat.zero_le _, by rw [scTo_zero]; exact HB4.out⟩
                    case round =>
                      clear HB4
                      obtain ⟨j, rfl, hjn, H⟩ := hrel
                      by_cases hj : j < n
                      · obtain ⟨z, hz⟩ : ∃ z, M1 piv.length j = z := ⟨_, rfl⟩
                        have hzb := HM1.out piv.length htm j hj
                        rw [hz] at hzb
                        have HZV := Lib.hid hz
                        obtain ⟨a1, a2, a3⟩ := MO_cell H htm
                        obtain ⟨b1, b2, b3, _⟩ := MO_row H htm hj
                        rw [scTo_at, hz] at b1
                        have hms := mul_small (a := z) (b := V) (by omega) (by omega) (by omega) (by omega)
                        have w1 : IntKind.i64.wrap (z * V) = z * V := IntWalk.i64_in _ (by omega)
                        have w1' : wrap64 (z * V) = z * V := by simp only [wrap64]; omega
                        have htm' : (z * V).tmod (P : Int) = z * V % (P : Int) := Int.tmod_eq_emod_of_nonneg hms.1
                        clear hz
                        go_wp2_with fail
                        have hPz : ((P : Int) == 0) = false := beq_eq_false_iff_ne.2 (by omega)
                        have hPz2 : ¬ ((P : Int) = 0) := by omega
                        go_still_tail 17, (by kernel_rfl)
                        change wpList _ _ _ _ _ wr.drew
                        have H2 := H.to (w' := wr.drew) (by repeat (first | exact ext_refl _ | (with_reducible assumption) | refine ext_ext' ?_ _ | refine ext_alloc' ?_ _ | refine ext_drew' ?_))
                        clear a1 a2 a3 b1 b2 b3 H
                        generalize wr.drew = w4 at H2 ⊢
                        obtain ⟨a1, a2, a3⟩ := MO_cell H2 htm
                        obtain ⟨b1, b2, b3, b4⟩ := MO_row H2 htm hj
                        have H3 := Lib.hid (b4 (z * V % P))
                        clear b4 H2
                        go_wp2_with fail
                        go_roundw
                        case rel => exact ⟨j + 1, int_succ j, hj, by rw [← scTo_step, HZV.out]; exact H3.out⟩
                        case measure => simp [intOf]; omega
                      · have HJ := Lib.hid (show j = n by omega)
                        have HC := Lib.hid (show MH W0 wr g cap ρ2 κ2 m n (scaleR P M1 piv.length V) (rowI (.slice pa piv.length pc) (castL piv) :: L) by
                          have e := MO_congr (g := g) (cap := cap) (φ := slR ρ2 κ2 n) (ρ := ρ2) (κ := κ2) (L := rowI (.slice pa piv.length pc) (castL piv) :: L) (M := scTo P M1 piv.length V j) (M' := scaleR P M1 piv.length V) (m := m) (n := n) fun i _ j' hj' => by rw [HJ.out]; exact scTo_all hj'
                          rw [MH, ← e]; exact H)
                        clear H
                        obtain ⟨M2, hM2⟩ : ∃ M2, scaleR (P : Int) M1 piv.length V = M2 := ⟨_, rfl⟩
                        rw [hM2] at HC HGS HM2
                        clear hM2
                        go_wp2_with fail
                        go_loopw [107] (fun u w5 => ∃ i : Nat, u = .int .i64 i ∧ i ≤ m ∧ MH W0 w5 g cap ρ2 κ2 m n (elIn P M2 piv.length c i 0) (rowI (.slice pa piv.length pc) (castL piv) :: L)) (fun u _ => m - (intOf u).toNat)
                        case atStart => exact ⟨0, rfl, Nat.zero_le _, by rw [elIn_zero]; exact HC.out⟩
                        case round =>
                          clear HC
                          obtain ⟨i, rfl, him, H⟩ := hrel
                          by_cases hi : i < m
                          · obtain ⟨f, hf⟩ : ∃ f, M2 i c = f := ⟨_, rfl⟩
                            have hfb := HM2.out i hi c hcn
                            rw [hf] at hfb
                            have HFF := Lib.hid hf
                            obtain ⟨a1, a2, a3⟩ := MO_cell H hi
                            obtain ⟨b1, b2, b3, _⟩ := MO_row H hi hcn
                            rw [elIn_lo, hf] at b1
                            clear hf
                            have HFB := Lib.hid hfb
                            by_cases hit : i = piv.length
                            · have hbt : ((i : Int) == (piv.length : Int)) = true := beq_iff_eq.2 (by omega)
                              have HC := Lib.hid (show MH W0 wr g cap ρ2 κ2 m n (elIn P M2 piv.length c (i + 1) 0) (rowI (.slice pa piv.length pc) (castL piv) :: L) by
                                have e := MO_congr (g := g) (cap := cap) (φ := slR ρ2 κ2 n) (ρ := ρ2) (κ := κ2) (L := rowI (.slice pa piv.length pc) (castL piv) :: L) (M := elIn P M2 piv.length c i 0) (M' := elIn P M2 piv.length c (i + 1) 0) (m := m) (n := n) fun i' _ j' hj' => elIn_skip HM2.out hP0 hi (.inl hit) hj'
                                rw [MH, ← e]; exact H)
                              clear H hit
                              go_wp2_with fail
                              go_roundw
                              case rel => exact ⟨i + 1, int_succ i, hi, HC.out⟩
                              case measure => simp [intOf]; omega
                            · have hbt : ((i : Int) == (piv.length : Int)) = false := beq_eq_false_iff_ne.2 (by omega)
                              by_cases hf0 : f = 0
                              · have hbf : (f == (0 : Int)) = true := beq_iff_eq.2 hf0
                                have HC := Lib.hid (show MH W0 wr g cap ρ2 κ2 m n (elIn P M2 piv.length c (i + 1) 0) (rowI (.slice pa piv.length pc) (castL piv) :: L) by
                                  have e := MO_congr (g := g) (cap := cap) (φ := slR ρ2 κ2 n) (ρ := ρ2) (κ := κ2) (L := rowI (.slice pa piv.length pc) (castL piv) :: L) (M := elIn P M2 piv.length c i 0) (M' := elIn P M2 piv.length c (i + 1) 0) (m := m) (n := n) fun i' _ j' hj' => elIn_skip HM2.out hP0 hi (.inr (HFF.out.trans hf0)) hj'
                                  rw [MH, ← e]; exact H)
                                clear H hf0 hfb
                                go_wp2_with fail
                                go_roundw
                                case rel => exact ⟨i + 1, int_succ i, hi, HC.out⟩
                                case measure => simp [intOf]; omega
                              · have hbf : (f == (0 : Int)) = false := beq_eq_false_iff_ne.2 hf0
                                have HIT := Lib.hid hit
                                have HH := Lib.hid H
                                clear H hf0
                                go_wp2_with fail
                                clear a1 a2 a3 b1 b2 b3
                                go_loopw [129] (fun u w6 => ∃ j : Nat, u = .int .i64 j ∧ j ≤ n ∧ MH W0 w6 g cap ρ2 κ2 m n (elIn P M2 piv.length c i j) (rowI (.slice pa piv.length pc) (castL piv) :: L)) (fun u _ => n - (intOf u).toNat)
                                case atStart => exact ⟨0, rfl, Nat.zero_le _, HH.out⟩
                                case round =>
                                  clear HH
                                  obtain ⟨j, rfl, hjn, H⟩ := hrel
                                  by_cases hj : j < n
                                  · obtain ⟨a, ha⟩ : ∃ a, M2 i j = a := ⟨_, rfl⟩
                                    obtain ⟨b, hb⟩ : ∃ b, M2 piv.length j = b := ⟨_, rfl⟩
                                    have hab := HM2.out i hi j hj
                                    have hbb := HM2.out piv.length htm j hj
                                    rw [ha] at hab
                                    rw [hb] at hbb
                                    have HAV := Lib.hid ha
                                    have HBV := Lib.hid hb
                                    obtain ⟨a1, a2, a3⟩ := MO_cell H hi
                                    obtain ⟨t1, t2, t3⟩ := MO_cell H htm
                                    obtain ⟨b1, b2, b3, _⟩ := MO_row H hi hj
                                    obtain ⟨d1, d2, d3, _⟩ := MO_row H htm hj
                                    rw [elIn_at, ha] at b1
                                    rw [elIn_t, hb] at d1
                                    have hfb := HFB.out
                                    have hms := mul_small (a := (P : Int) - f) (b := b) (by omega) (by omega) (by omega) (by omega)
                                    have w1 : IntKind.i64.wrap ((P : Int) - f) = (P : Int) - f := IntWalk.i64_in _ (by omega)
                                    have w2 : IntKind.i64.wrap (((P : Int) - f) * b) = ((P : Int) - f) * b := IntWalk.i64_in _ (by omega)
                                    have w3 : IntKind.i64.wrap (a + ((P : Int) - f) * b) = a + ((P : Int) - f) * b := IntWalk.i64_in _ (by omega)
                                    have w1' : wrap64 ((P : Int) - f) = (P : Int) - f := by simp only [wrap64]; omega
                                    have w2' : wrap64 (((P : Int) - f) * b) = ((P : Int) - f) * b := by simp only [wrap64]; omega
                                    have w3' : wrap64 (a + ((P : Int) - f) * b) = a + ((P : Int) - f) * b := by simp only [wrap64]; omega
                                    have htm' : (a + ((P : Int) - f) * b).tmod (P : Int) = (a + ((P : Int) - f) * b) % (P : Int) := Int.tmod_eq_emod_of_nonneg (by omega)
                                    clear ha hb hfb
                                    go_wp2_with fail
                                    have hPz : ((P : Int) == 0) = false := beq_eq_false_iff_ne.2 (by omega)
                                    have hPz2 : ¬ ((P : Int) = 0) := by omega
                                    go_still_tail 27, (by kernel_rfl)
                                    change wpList _ _ _ _ _ wr.drew
                                    have H2 := H.to (w' := wr.drew) (by repeat (first | exact ext_refl _ | (with_reducible assumption) | refine ext_ext' ?_ _ | refine ext_alloc' ?_ _ | refine ext_drew' ?_))
                                    clear a1 a2 a3 b1 b2 b3 t1 t2 t3 d1 d2 d3 H
                                    generalize wr.drew = w4 at H2 ⊢
                                    obtain ⟨a1, a2, a3⟩ := MO_cell H2 hi
                                    obtain ⟨t1, t2, t3⟩ := MO_cell H2 htm
                                    obtain ⟨b1, b2, b3, b4⟩ := MO_row H2 hi hj
                                    obtain ⟨d1, d2, d3, _⟩ := MO_row H2 htm hj
                                    have H3 := Lib.hid (b4 ((a + ((P : Int) - f) * b) % P))
                                    clear b4 H2
                                    go_wp2_with fail
                                    go_roundw
                                    case rel => exact ⟨j + 1, int_succ j, hj, by rw [← elIn_step HIT.out, HAV.out, HBV.out, HFF.out]; exact H3.out⟩
                                    case measure => simp [intOf]; omega
                                  · have HJ := Lib.hid (show j = n by omega)
                                    have HC := Lib.hid (show MH W0 wr g cap ρ2 κ2 m n (elIn P M2 piv.length c (i + 1) 0) (rowI (.slice pa piv.length pc) (castL piv) :: L) by
                                      have e := MO_congr (g := g) (cap := cap) (φ := slR ρ2 κ2 n) (ρ := ρ2) (κ := κ2) (L := rowI (.slice pa piv.length pc) (castL piv) :: L) (M := elIn P M2 piv.length c i j) (M' := elIn P M2 piv.length c (i + 1) 0) (m := m) (n := n) fun i' _ j' hj' => by rw [HJ.out]; exact elIn_next hj'
                                      rw [MH, ← e]; exact H)
                                    clear H
                                    go_wp2_with fail
                                    go_roundw
                                    case rel => exact ⟨i + 1, int_succ i, hi, HC.out⟩
                                    case measure => simp [intOf]; omega
                          · have HI := Lib.hid (show i = m by omega)
                            have HC := Lib.hid (show MH W0 wr g cap ρ2 κ2 m n (elimR P M2 piv.length c) (rowI (.slice pa piv.length pc) (castL piv) :: L) by
                              have e := MO_congr (g := g) (cap := cap) (φ := slR ρ2 κ2 n) (ρ := ρ2) (κ := κ2) (L := rowI (.slice pa piv.length pc) (castL piv) :: L) (M := elIn P M2 piv.length c i 0) (M' := elimR P M2 piv.length c) (m := m) (n := n) fun i' hi' j' _ => by rw [HI.out]; exact elIn_all hi'
                              rw [MH, ← e]; exact H)
                            have HR := Lib.hid (HC.out.front MO_last)
                            clear H HC
                            have hpl : piv.length ≤ 100000 := by omega
                            go_wp2_with (first | (at_builtin; refine wpList_append_held (m := 1) rfl _ _ _ rfl elemInt (HR.out.to (by repeat (first | exact ext_refl _ | (with_reducible assumption) | refine ext_ext' ?_ _ | refine ext_alloc' ?_ _ | refine ext_drew' ?_))) rfl rfl (Sl_new1 _ _ _) (one_lit _) (by rw [castL_len]; unfold maxLen; omega) (by rw [castL_len]; omega) ?_; intro v' w' H7; have H8 := Lib.hid (Held.front H7.snocN MO_last.symm); clear H7))
                            go_roundw
                            case rel => exact ⟨v', c + 1, ρ2, κ2, rfl, hlt, int_succ c, by rw [HGS.out]; exact H8.out⟩
                            case measure => simp [intOf]; omega
                  · have hne : (x * y % (P : Int) != 1) = true := bne_iff_ne.2 (HINV.out.2.2.2.2 y hy1 (by omega))
                    have hyV2 : y + 1 ≤ V := by omega
                    clear hyV
                    go_wp2_with fail
                    go_roundw
                    case rel => exact ⟨y + 1, rfl, by omega, hyV2, by first | rfl | trivial⟩
                    case measure => simp [intOf]; omega
              · go_wp2_with fail
                refine hK'.out _ _ trivial ?_
                clear hK' K'
                refine nextE (i := 7) rfl (by kernel_rfl) (by kernel_rfl) (fun K' hK' => ?_)
                go_wp2_with fail
                refine hK'.out _ _ trivial ?_
                clear hK' K'
                refine' takeS (i := 12) (v := _) rfl (by kernel_rfl) (by kernel_rfl) (by kernel_rfl) (fun _ _ _ h => h) (by kernel_rfl) (fun wb hwb => ?_) trivial ?_
                rotate_left
                · (go_simp; try rfl)
                try simp only [List.getElem_toArray]
                try simp only [List.getElem_cons_succ]
                try simp only [List.getElem_cons_zero]
                try simp only [Act.put]
                try simp only [List.setIfInBounds_toArray]
                try simp only [List.set_cons_succ]
                try simp only [List.set_cons_zero]
                have HB2 := MO_put HB piv.length (slR ρ κ n k)
                obtain ⟨u1, u2, u3⟩ := MO_cell HB2 hkm
                have HB3 : MH W0 _ g cap (sw piv.length k ρ) (sw piv.length k κ) m n (swapR A piv.length k) _ := MO_swap htm hkm (MO_put HB2 k (slR ρ κ n piv.length))
                have HB4 := Lib.hid HB3
                clear HB HB2 HB3
                refine nextE (i := 13) rfl (by kernel_rfl) (by kernel_rfl) (fun K' hK' => ?_)
                go_wp2_with fail
                refine hK'.out _ _ trivial ?_
                clear hK' K'
                refine' takeS (i := 14) (v := _) rfl (by kernel_rfl) (by kernel_rfl) (by kernel_rfl) (fun _ _ _ h => h) (by kernel_rfl) (fun wb hwb => ?_) trivial ?_
                rotate_left
                · (go_simp; try rfl)
                try simp only [List.getElem_toArray]
                try simp only [List.getElem_cons_succ]
                try simp only [List.getElem_cons_zero]
                try simp only [Act.put]
                try simp only [List.setIfInBounds_toArray]
                try simp only [List.set_cons_succ]
                try simp only [List.set_cons_zero]
                refine nextE (i := 15) rfl (by kernel_rfl) (by kernel_rfl) (fun K' hK' => ?_)
                go_wp2_with fail
                refine hK'.out _ _ trivial ?_
                clear hK' K'
                refine wpAnyH_done (by kernel_rfl) ?_ _
                clear a1 a2 a3 t1 t2 t3 u1 u2 u3
                generalize World.setCell (World.setCell _ _ _) _ _ = w2 at HB4 ⊢
                obtain ⟨ρ2, hρ⟩ : ∃ ρ2, sw piv.length k ρ = ρ2 := ⟨_, rfl⟩
                obtain ⟨κ2, hκ⟩ : ∃ κ2, sw piv.length k κ = κ2 := ⟨_, rfl⟩
                obtain ⟨M1, hM1⟩ : ∃ M1, swapR A piv.length k = M1 := ⟨_, rfl⟩
                rw [hρ, hκ, hM1] at HB4
                rw [hM1] at HM1 HM1x HGS HM2
                clear hρ hκ hM1
                obtain ⟨a1, a2, a3⟩ := MO_cell HB4.out htm
                obtain ⟨b1, b2, b3, _⟩ := MO_row HB4.out htm hcn
                rw [HM1x.out] at b1
                go_wp2_with fail
                go_loopw [11] (fun u w3 => ∃ y : Int, u = .int .i64 y ∧ 1 ≤ y ∧ y ≤ V ∧ w3 = w2) (fun u _ => 5 - (intOf u).toNat)
                case atStart => exact ⟨1, rfl, by omega, hv1, rfl⟩
                case round =>
                  obtain ⟨y, rfl, hy1, hy2, rfl⟩ := hrel
                  have hms := mul_small (a := y) (b := x) (by omega) (by omega) (by omega) (by omega)
                  have w1 : IntKind.i64.wrap (y * x) = y * x := IntWalk.i64_in _ (by omega)
                  have htm' : (y * x).tmod (P : Int) = x * y % (P : Int) := by rw [Int.tmod_eq_emod_of_nonneg hms.1, Int.mul_comm]
                  by_cases hyV : y = V
                  · have hne : (x * y % (P : Int) != 1) = false := by rw [hyV, HINV.out.1]; rfl
                    obtain rfl : V = y := hyV.symm
                    clear hyV
                    go_wp2_with fail
                    clear w1 htm' hne hms hy1 hy2 a1 a2 a3 b1 b2 b3
                    go_loopw [84] (fun u w3 => ∃ j : Nat, u = .int .i64 j ∧ j ≤ n ∧ MH W0 w3 g cap ρ2 κ2 m n (scTo P M1 piv.length V j) (rowI (.slice pa piv.length pc) (castL piv) :: L)) (fun u _ => n - (intOf u).toNat)
                    case atStart => exact ⟨0, rfl, Nat.zero_le _, by rw [scTo_zero]; exact HB4.out⟩
                    case round =>
                      clear HB4
                      obtain ⟨j, rfl, hjn, H⟩ := hrel
                      by_cases hj : j < n
                      · obtain ⟨z, hz⟩ : ∃ z, M1 piv.length j = z := ⟨_, rfl⟩
                        have hzb := HM1.out piv.length htm j hj
                        rw [hz] at hzb
                        have HZV := Lib.hid hz
                        obtain ⟨a1, a2, a3⟩ := MO_cell H htm
                        obtain ⟨b1, b2, b3, _⟩ := MO_row H htm hj
                        rw [scTo_at, hz] at b1
                        have hms := mul_small (a := z) (b := V) (by omega) (by omega) (by omega) (by omega)
                        have w1 : IntKind.i64.wrap (z * V) = z * V := IntWalk.i64_in _ (by omega)
                        have w1' : wrap64 (z * V) = z * V := by simp only [wrap64]; omega
                        have htm' : (z * V).tmod (P : Int) = z * V % (P : Int) := Int.tmod_eq_emod_of_nonneg hms.1
                        clear hz
                        go_wp2_with fail
                        have hPz : ((P : Int) == 0) = false := beq_eq_false_iff_ne.2 (by omega)
                        have hPz2 : ¬ ((P : Int) = 0) := by omega
                        go_still_tail 17, (by kernel_rfl)
                        change wpList _ _ _ _ _ wr.drew
                        have H2 := H.to (w' := wr.drew) (by repeat (first | exact ext_refl _ | (with_reducible assumption) | refine ext_ext' ?_ _ | refine ext_alloc' ?_ _ | refine ext_drew' ?_))
                        clear a1 a2 a3 b1 b2 b3 H
                        generalize wr.drew = w4 at H2 ⊢
                        obtain ⟨a1, a2, a3⟩ := MO_cell H2 htm
                        obtain ⟨b1, b2, b3, b4⟩ := MO_row H2 htm hj
                        have H3 := Lib.hid (b4 (z * V % P))
                        clear b4 H2
                        go_wp2_with fail
                        go_roundw
                        case rel => exact ⟨j + 1, int_succ j, hj, by rw [← scTo_step, HZV.out]; exact H3.out⟩
                        case measure => simp [intOf]; omega
                      · have HJ := Lib.hid (show j = n by omega)
                        have HC := Lib.hid (show MH W0 wr g cap ρ2 κ2 m n (scaleR P M1 piv.length V) (rowI (.slice pa piv.length pc) (castL piv) :: L) by
                          have e := MO_congr (g := g) (cap := cap) (φ := slR ρ2 κ2 n) (ρ := ρ2) (κ := κ2) (L := rowI (.slice pa piv.length pc) (castL piv) :: L) (M := scTo P M1 piv.length V j) (M' := scaleR P M1 piv.length V) (m := m) (n := n) fun i _ j' hj' => by rw [HJ.out]; exact scTo_all hj'
                          rw [MH, ← e]; exact H)
                        clear H
                        obtain ⟨M2, hM2⟩ : ∃ M2, scaleR (P : Int) M1 piv.length V = M2 := ⟨_, rfl⟩
                        rw [hM2] at HC HGS HM2
                        clear hM2
                        go_wp2_with fail
                        go_loopw [107] (fun u w5 => ∃ i : Nat, u = .int .i64 i ∧ i ≤ m ∧ MH W0 w5 g cap ρ2 κ2 m n (elIn P M2 piv.length c i 0) (rowI (.slice pa piv.length pc) (castL piv) :: L)) (fun u _ => m - (intOf u).toNat)
                        case atStart => exact ⟨0, rfl, Nat.zero_le _, by rw [elIn_zero]; exact HC.out⟩
                        case round =>
                          clear HC
                          obtain ⟨i, rfl, him, H⟩ := hrel
                          by_cases hi : i < m
                          · obtain ⟨f, hf⟩ : ∃ f, M2 i c = f := ⟨_, rfl⟩
                            have hfb := HM2.out i hi c hcn
                            rw [hf] at hfb
                            have HFF := Lib.hid hf
                            obtain ⟨a1, a2, a3⟩ := MO_cell H hi
                            obtain ⟨b1, b2, b3, _⟩ := MO_row H hi hcn
                            rw [elIn_lo, hf] at b1
                            clear hf
                            have HFB := Lib.hid hfb
                            by_cases hit : i = piv.length
                            · have hbt : ((i : Int) == (piv.length : Int)) = true := beq_iff_eq.2 (by omega)
                              have HC := Lib.hid (show MH W0 wr g cap ρ2 κ2 m n (elIn P M2 piv.length c (i + 1) 0) (rowI (.slice pa piv.length pc) (castL piv) :: L) by
                                have e := MO_congr (g := g) (cap := cap) (φ := slR ρ2 κ2 n) (ρ := ρ2) (κ := κ2) (L := rowI (.slice pa piv.length pc) (castL piv) :: L) (M := elIn P M2 piv.length c i 0) (M' := elIn P M2 piv.length c (i + 1) 0) (m := m) (n := n) fun i' _ j' hj' => elIn_skip HM2.out hP0 hi (.inl hit) hj'
                                rw [MH, ← e]; exact H)
                              clear H hit
                              go_wp2_with fail
                              go_roundw
                              case rel => exact ⟨i + 1, int_succ i, hi, HC.out⟩
                              case measure => simp [intOf]; omega
                            · have hbt : ((i : Int) == (piv.length : Int)) = false := beq_eq_false_iff_ne.2 (by omega)
                              by_cases hf0 : f = 0
                              · have hbf : (f == (0 : Int)) = true := beq_iff_eq.2 hf0
                                have HC := Lib.hid (show MH W0 wr g cap ρ2 κ2 m n (elIn P M2 piv.length c (i + 1) 0) (rowI (.slice pa piv.length pc) (castL piv) :: L) by
                                  have e := MO_congr (g := g) (cap := cap) (φ := slR ρ2 κ2 n) (ρ := ρ2) (κ := κ2) (L := rowI (.slice pa piv.length pc) (castL piv) :: L) (M := elIn P M2 piv.length c i 0) (M' := elIn P M2 piv.length c (i + 1) 0) (m := m) (n := n) fun i' _ j' hj' => elIn_skip HM2.out hP0 hi (.inr (HFF.out.trans hf0)) hj'
                                  rw [MH, ← e]; exact H)
                                clear H hf0 hfb
                                go_wp2_with fail
                                go_roundw
                                case rel => exact ⟨i + 1, int_succ i, hi, HC.out⟩
                                case measure => simp [intOf]; omega
                              · have hbf : (f == (0 : Int)) = false := beq_eq_false_iff_ne.2 hf0
                                have HIT := Lib.hid hit
                                have HH := Lib.hid H
                                clear H hf0
                                go_wp2_with fail
                                clear a1 a2 a3 b1 b2 b3
                                go_loopw [129] (fun u w6 => ∃ j : Nat, u = .int .i64 j ∧ j ≤ n ∧ MH W0 w6 g cap ρ2 κ2 m n (elIn P M2 piv.length c i j) (rowI (.slice pa piv.length pc) (castL piv) :: L)) (fun u _ => n - (intOf u).toNat)
                                case atStart => exact ⟨0, rfl, Nat.zero_le _, HH.out⟩
                                case round =>
                                  clear HH
                                  obtain ⟨j, rfl, hjn, H⟩ := hrel
                                  by_cases hj : j < n
                                  · obtain ⟨a, ha⟩ : ∃ a, M2 i j = a := ⟨_, rfl⟩
                                    obtain ⟨b, hb⟩ : ∃ b, M2 piv.length j = b := ⟨_, rfl⟩
                                    have hab := HM2.out i hi j hj
                                    have hbb := HM2.out piv.length htm j hj
                                    rw [ha] at hab
                                    rw [hb] at hbb
                                    have HAV := Lib.hid ha
                                    have HBV := Lib.hid hb
                                    obtain ⟨a1, a2, a3⟩ := MO_cell H hi
                                    obtain ⟨t1, t2, t3⟩ := MO_cell H htm
                                    obtain ⟨b1, b2, b3, _⟩ := MO_row H hi hj
                                    obtain ⟨d1, d2, d3, _⟩ := MO_row H htm hj
                                    rw [elIn_at, ha] at b1
                                    rw [elIn_t, hb] at d1
                                    have hfb := HFB.out
                                    have hms := mul_small (a := (P : Int) - f) (b := b) (by omega) (by omega) (by omega) (by omega)
                                    have w1 : IntKind.i64.wrap ((P : Int) - f) = (P : Int) - f := IntWalk.i64_in _ (by omega)
                                    have w2 : IntKind.i64.wrap (((P : Int) - f) * b) = ((P : Int) - f) * b := IntWalk.i64_in _ (by omega)
                                    have w3 : IntKind.i64.wrap (a + ((P : Int) - f) * b) = a + ((P : Int) - f) * b := IntWalk.i64_in _ (by omega)
                                    have w1' : wrap64 ((P : Int) - f) = (P : Int) - f := by simp only [wrap64]; omega
                                    have w2' : wrap64 (((P : Int) - f) * b) = ((P : Int) - f) * b := by simp only [wrap64]; omega
                                    have w3' : wrap64 (a + ((P : Int) - f) * b) = a + ((P : Int) - f) * b := by simp only [wrap64]; omega
                                    have htm' : (a + ((P : Int) - f) * b).tmod (P : Int) = (a + ((P : Int) - f) * b) % (P : Int) := Int.tmod_eq_emod_of_nonneg (by omega)
                                    clear ha hb hfb
                                    go_wp2_with fail
                                    have hPz : ((P : Int) == 0) = false := beq_eq_false_iff_ne.2 (by omega)
                                    have hPz2 : ¬ ((P : Int) = 0) := by omega
                                    go_still_tail 27, (by kernel_rfl)
                                    change wpList _ _ _ _ _ wr.drew
                                    have H2 := H.to (w' := wr.drew) (by repeat (first | exact ext_refl _ | (with_reducible assumption) | refine ext_ext' ?_ _ | refine ext_alloc' ?_ _ | refine ext_drew' ?_))
                                    clear a1 a2 a3 b1 b2 b3 t1 t2 t3 d1 d2 d3 H
                                    generalize wr.drew = w4 at H2 ⊢
                                    obtain ⟨a1, a2, a3⟩ := MO_cell H2 hi
                                    obtain ⟨t1, t2, t3⟩ := MO_cell H2 htm
                                    obtain ⟨b1, b2, b3, b4⟩ := MO_row H2 hi hj
                                    obtain ⟨d1, d2, d3, _⟩ := MO_row H2 htm hj
                                    have H3 := Lib.hid (b4 ((a + ((P : Int) - f) * b) % P))
                                    clear b4 H2
                                    go_wp2_with fail
                                    go_roundw
                                    case rel => exact ⟨j + 1, int_succ j, hj, by rw [← elIn_step HIT.out, HAV.out, HBV.out, HFF.out]; exact H3.out⟩
                                    case measure => simp [intOf]; omega
                                  · have HJ := Lib.hid (show j = n by omega)
                                    have HC := Lib.hid (show MH W0 wr g cap ρ2 κ2 m n (elIn P M2 piv.length c (i + 1) 0) (rowI (.slice pa piv.length pc) (castL piv) :: L) by
                                      have e := MO_congr (g := g) (cap := cap) (φ := slR ρ2 κ2 n) (ρ := ρ2) (κ := κ2) (L := rowI (.slice pa piv.length pc) (castL piv) :: L) (M := elIn P M2 piv.length c i j) (M' := elIn P M2 piv.length c (i + 1) 0) (m := m) (n := n) fun i' _ j' hj' => by rw [HJ.out]; exact elIn_next hj'
                                      rw [MH, ← e]; exact H)
                                    clear H
                                    go_wp2_with fail
                                    go_roundw
                                    case rel => exact ⟨i + 1, int_succ i, hi, HC.out⟩
                                    case measure => simp [intOf]; omega
                          · have HI := Lib.hid (show i = m by omega)
                            have HC := Lib.hid (show MH W0 wr g cap ρ2 κ2 m n (elimR P M2 piv.length c) (rowI (.slice pa piv.length pc) (castL piv) :: L) by
                              have e := MO_congr (g := g) (cap := cap) (φ := slR ρ2 κ2 n) (ρ := ρ2) (κ := κ2) (L := rowI (.slice pa piv.length pc) (castL piv) :: L) (M := elIn P M2 piv.length c i 0) (M' := elimR P M2 piv.length c) (m := m) (n := n) fun i' hi' j' _ => by rw [HI.out]; exact elIn_all hi'
                              rw [MH, ← e]; exact H)
                            have HR := Lib.hid (HC.out.front MO_last)
                            clear H HC
                            have hpl : piv.length ≤ 100000 := by omega
                            go_wp2_with (first | (at_builtin; refine wpList_append_held (m := 1) rfl _ _ _ rfl elemInt (HR.out.to (by repeat (first | exact ext_refl _ | (with_reducible assumption) | refine ext_ext' ?_ _ | refine ext_alloc' ?_ _ | refine ext_drew' ?_))) rfl rfl (Sl_new1 _ _ _) (one_lit _) (by rw [castL_len]; unfold maxLen; omega) (by rw [castL_len]; omega) ?_; intro v' w' H7; have H8 := Lib.hid (Held.front H7.snocN MO_last.symm); clear H7))
                            go_roundw
                            case rel => exact ⟨v', c + 1, ρ2, κ2, rfl, hlt, int_succ c, by rw [HGS.out]; exact H8.out⟩
                            case measure => simp [intOf]; omega
                  · have hne : (x * y % (P : Int) != 1) = true := bne_iff_ne.2 (HINV.out.2.2.2.2 y hy1 (by omega))
                    have hyV2 : y + 1 ≤ V := by omega
                    clear hyV
                    go_wp2_with fail
                    go_roundw
                    case rel => exact ⟨y + 1, rfl, by omega, hyV2, by first | rfl | trivial⟩
                    case measure => simp [intOf]; omega
          · have hke : ((k : Int) == (m : Int)) = true := beq_iff_eq.2 (by omega)
            have HGN := Lib.hid (gs_none (p := (P : Int)) (m := m) (M := M) (c := c) (by rw [HG.out]; exact fun q h1 h2 => HZ.out q h1 (by omega)))
            go_wp2_with fail
            go_roundw
            case rel => exact ⟨_, c + 1, ρ, κ, rfl, hlt, int_succ c, by rw [HGN.out, HG.out]; exact HH.out⟩
            case measure => simp [intOf]; omega
      · have HGS := Lib.hid (gs_stop (p := (P : Int)) (m := m) (M := M) (c := c) (n := cols) (by rw [HG.out]; exact htm) hck)
        have HH := Lib.hid H
        clear hred hg H
        subst epv
        go_wp2_with fail
        go_ret
        exact ⟨_, ρ, κ, rfl, by rw [HGS.out, HG.out]; exact HH.out⟩
    · have HK := Lib.hid (show c = cols by omega)
      have HH := Lib.hid H
      clear hred hg H
      subst epv
      go_wp2_with fail
      go_ret
      exact ⟨_, ρ, κ, rfl, by rw [← HK.out, HG.out]; exact HH.out⟩
end
section
open Go.ChangeShapes Go.WideShapes Go.ChangeAt Go.RowKit
theorem red_val {p a f b : Int} (hp : 0 < p) (ha : 0 ≤ a) (ha2 : a < p) (hf : 0 ≤ f) (hf2 : f < p) (hb : 0 ≤ b) (hb2 : b < p) : ((a - f * b).tmod p + p).tmod p = (a + (p - f) * b) % p := by
  generalize hu : a - f * b = u
  have h1 : -p < u.tmod p := by
    rcases Int.le_total 0 u with h | h
    · have := Int.tmod_nonneg p h; omega
    · have := Int.lt_tmod_of_pos u hp; omega
  rw [Int.tmod_eq_emod_of_nonneg (by omega), Int.add_emod_right]
  have h2 : u = u.tmod p + p * u.tdiv p := by have := Int.mul_tdiv_add_tmod u p; omega
  have h3 : u % p = u.tmod p % p := by
    conv => lhs; rw [h2]
    rw [Int.add_mul_emod_self_left]
  have h4 : a + (p - f) * b = u + p * b := by rw [← hu, Int.sub_mul]; omega
  rw [h4, Int.add_mul_emod_self_left, h3]
theorem red_mid {p u : Int} (hp : 0 < p) (hp5 : p ≤ 5) : -5 ≤ u.tmod p ∧ u.tmod p ≤ 5 := by
  have := Int.lt_tmod_of_pos u hp
  have := Int.tmod_lt_of_pos u hp
  omega
theorem red_bd {p a f b : Int} (hp : p ≤ 5) (ha : 0 ≤ a) (ha2 : a < p) (hf : 0 ≤ f) (hf2 : f < p) (hb : 0 ≤ b) (hb2 : b < p) : -25 ≤ a - f * b ∧ a - f * b ≤ 25 := by
  have := mul_small (a := f) (b := b) hf (by omega) hb (by omega)
  omega
/-- what the search from the end has found: places behind i are seen -/
def Seen (A : Mat) (c m : Nat) (i at_ : Int) : Prop := (at_ = -1 ∧ ∀ q : Nat, i < q → q < m → A q c = 0) ∨ ∃ a : Nat, at_ = a ∧ i < a ∧ a < m ∧ A a c ≠ 0 ∧ ∀ q : Nat, i < q → q < a → A q c = 0
theorem Seen.start (A : Mat) (c m : Nat) : Seen A c m ((m : Int) - 1) (-1) := .inl ⟨rfl, fun q h1 h2 => by omega⟩
theorem Seen.zero {A : Mat} {c m i : Nat} {at_ : Int} (h : Seen A c m i at_) (h0 : A i c = 0) : Seen A c m ((i : Int) - 1) at_ := by
  rcases h with ⟨e, h⟩ | ⟨a, e, h1, h2, h3, h4⟩
  · refine .inl ⟨e, fun q hq1 hq2 => ?_⟩
    rcases Nat.lt_or_ge i q with e2 | e2
    · exact h q (by omega) hq2
    · have : q = i := by omega
      rw [this]; exact h0
  · refine .inr ⟨a, e, by omega, h2, h3, fun q hq1 hq2 => ?_⟩
    rcases Nat.lt_or_ge i q with e2 | e2
    · exact h4 q (by omega) hq2
    · have : q = i := by omega
      rw [this]; exact h0
theorem Seen.here {A : Mat} {c m i : Nat} (hi : i < m) (h0 : A i c ≠ 0) : Seen A c m ((i : Int) - 1) i := .inr ⟨i, rfl, by omega, hi, h0, fun q h1 h2 => by omega⟩
theorem tab_snoc (k : Nat) (f : Nat → Int) : tab (k + 1) f = tab k f ++ [f k] := by simp [tab, List.range_succ]
end
section
open Go.ChangeShapes Go.WideShapes Go.ChangeAt Go.RowKit
def sgTo (all : List Nat) (k : List Int) (b : Nat) : Nat → Int := iter (fun i n => if (nthN all i).testBit b then n + nth k i else n) 0
theorem sgTo_t {all : List Nat} {k : List Int} {b i : Nat} (h : (nthN all i).testBit b = true) : sgTo all k b (i + 1) = sgTo all k b i + nth k i := by simp [sgTo, iter, h]
theorem sgTo_f {all : List Nat} {k : List Int} {b i : Nat} (h : (nthN all i).testBit b = false) : sgTo all k b (i + 1) = sgTo all k b i := by simp [sgTo, iter, h]
theorem sgTo_bd {all : List Nat} {k : List Int} {b P : Nat} (h : arB k P = true) (hP : P ≤ 5) : ∀ i, i ≤ k.length → 0 ≤ sgTo all k b i ∧ sgTo all k b i ≤ 4 * i
  | 0, _ => by simp [sgTo, iter]
  | i + 1, hi => by
    have ih := sgTo_bd (all := all) (b := b) h hP i (by omega)
    have h2 := arB_bd h hP (k := i) (by omega)
    cases hb : (nthN all i).testBit b
    · rw [sgTo_f hb]; omega
    · rw [sgTo_t hb]; omega
def bitI (m b : Nat) : Int := if m.testBit b then 1 else 0
theorem bit_int (m b : Nat) : ((andN (shrN m b) 1 : Nat) : Int) = bitI m b := by
  rw [bit_of, bitI]
  cases m.testBit b <;> rfl
theorem bitN_f {m b : Nat} (h : m.testBit b = false) : ((andN (shrN m b) 1 : Nat) : Int) = 0 := by rw [bit_int, bitI, h]; rfl
theorem bitN_t {m b : Nat} (h : m.testBit b = true) : ((andN (shrN m b) 1 : Nat) : Int) = 1 := by rw [bit_int, bitI, h]; rfl
def sgB (all : List Nat) (M : Nat) (k : List Int) (p : Int) (b : Nat) : Bool := decide (sgTo all k b all.length % p = bitI M b)
def sgV (wd : Int) (rows : List Int) (pss : List (List (Int × Int))) (p : Int) (k : List Int) : Bool :=
  probB wd rows pss && (primeB p && (decide (k.length = (alN wd rows pss).length) && (arB k p && allTo (sgB (alN wd rows pss) (maskR wd rows) k p) (wd.toNat * rows.length))))
theorem sgV_b {wd : Int} {rows : List Int} {pss : List (List (Int × Int))} {p : Int} {k : List Int} (h : probB wd rows pss = false) : sgV wd rows pss p k = false := by simp [sgV, h]
theorem sgV_p {wd : Int} {rows : List Int} {pss : List (List (Int × Int))} {p : Int} {k : List Int} (h : primeB p = false) : sgV wd rows pss p k = false := by simp [sgV, h]
theorem sgV_l {wd : Int} {rows : List Int} {pss : List (List (Int × Int))} {p : Int} {k : List Int} (h : ¬ k.length = (alN wd rows pss).length) : sgV wd rows pss p k = false := by simp [sgV, h]
theorem sgV_a {wd : Int} {rows : List Int} {pss : List (List (Int × Int))} {p : Int} {k : List Int} (h : arB k p = false) : sgV wd rows pss p k = false := by simp [sgV, h]
theorem sgV_i {W : Nat} {rows : List Int} {pss : List (List (Int × Int))} {p : Int} {k : List Int} {b : Nat} (hb : b < W * rows.length) (h : sgB (alN W rows pss) (maskR W rows) k p b = false) : sgV W rows pss p k = false := by
  have := allTo_false (p := sgB (alN W rows pss) (maskR W rows) k p) hb h
  simp [sgV, this]
theorem sgV_y {W : Nat} {rows : List Int} {pss : List (List (Int × Int))} {p : Int} {k : List Int} (h1 : probB W rows pss = true) (h2 : primeB p = true) (h3 : k.length = (alN W rows pss).length) (h4 : arB k p = true) (h5 : allTo (sgB (alN W rows pss) (maskR W rows) k p) (W * rows.length) = true) : sgV W rows pss p k = true := by
  simp [sgV, h1, h2, h3, h4, h5]
/-- outside the region no placement has the bit -/
theorem sub_bit {m M b : Nat} (h : andN m M = m) (hb : M.testBit b = false) : m.testBit b = false := by
  rw [← h]
  show (m &&& M).testBit b = false
  rw [Nat.testBit_and, hb, Bool.and_false]
theorem al_bit {W : Nat} {rows : List Int} {pss : List (List (Int × Int))} {b i : Nat} (hb : (maskR W rows).testBit b = false) (hi : i < (alN W rows pss).length) : (nthN (alN W rows pss) i).testBit b = false := by
  have h := alN_at (W := W) (rows := rows) (pss := pss) hi
  rw [isMaskB_nat] at h
  exact sub_bit (but_and.1 (by simpa using h)) hb
theorem sg_zero {W : Nat} {rows : List Int} {pss : List (List (Int × Int))} {k : List Int} {b : Nat} (hb : (maskR W rows).testBit b = false) : ∀ i, i ≤ (alN W rows pss).length → sgTo (alN W rows pss) k b i = 0
  | 0, _ => rfl
  | i + 1, hi => by rw [sgTo_f (al_bit hb (by omega)), sg_zero hb i (by omega)]
theorem sgB_out {W : Nat} {rows : List Int} {pss : List (List (Int × Int))} {k : List Int} {p : Int} {b : Nat} (hb : (maskR W rows).testBit b = false) : sgB (alN W rows pss) (maskR W rows) k p b = true := by
  simp [sgB, sg_zero hb _ (Nat.le_refl _), bitI, hb]
theorem sgB_in {all : List Nat} {M : Nat} {k : List Int} {p : Int} {b : Nat} (hb : M.testBit b = true) : sgB all M k p b = !(sgTo all k b all.length % p != 1) := by
  by_cases h : sgTo all k b all.length % p = 1 <;> simp [sgB, bitI, hb, h]
end
section
open Go.ChangeShapes Go.WideShapes Go.ChangeAt Go.RowKit
theorem l10I_any (x : Int) (P : Nat) (hP : primeB P = true) (h0 : x ≠ 0) (h1 : 0 ≤ x) (h2 : x < P) (w : World) :
    Calls Tryz.prog 47 #[.int .i64 x, .int .i64 P] w fun e w' => e = .returned (.int .i64 (invP P x)) ∧ ∃ x, w' = ext w x := by
  have hpp := primeP_of hP
  have hP5 : P ≤ 5 := by rcases hpp with h | h | h <;> omega
  have hP2 : 2 ≤ P := by rcases hpp with h | h | h <;> omega
  haveI : Pos1 P := ⟨by omega⟩
  have hinv := invP_spec hpp h0 h1 h2
  obtain ⟨V, hV⟩ : ∃ V, invP (P : Int) x = V := ⟨_, rfl⟩
  rw [hV] at hinv ⊢
  have HINV := Lib.hid hinv
  obtain ⟨hv1, hv2, hv3⟩ : 1 ≤ V ∧ V ≤ 4 ∧ V < P := ⟨hinv.2.1, hinv.2.2.1, hinv.2.2.2.1⟩
  clear hpp hinv hV h0
  go_enter Tryz.func47, Tryz.ntmps47
  go_wp2_with fail
  go_loopw [5] (fun u wr => ∃ y : Int, u = .int .i64 y ∧ 1 ≤ y ∧ y ≤ V ∧ ∃ x, wr = ext w x) (fun u _ => 5 - (intOf u).toNat)
  case atStart => exact ⟨1, rfl, by omega, hv1, (by repeat (first | exact ext_refl _ | (with_reducible assumption) | refine ext_ext' ?_ _ | refine ext_alloc' ?_ _ | refine ext_drew' ?_))⟩
  case round =>
    obtain ⟨y, rfl, hy1, hy2, xr, rfl⟩ := hrel
    have hms := mul_small (a := x) (b := y) (by omega) (by omega) (by omega) (by omega)
    have w1 : IntKind.i64.wrap (x * y) = x * y := IntWalk.i64_in _ (by omega)
    have htm' : (x * y).tmod (P : Int) = x * y % (P : Int) := Int.tmod_eq_emod_of_nonneg hms.1
    by_cases hyV : y = V
    · have hne : (x * y % (P : Int) != 1) = false := by rw [hyV, HINV.out.1]; rfl
      have HYV := Lib.hid hyV
      clear hyV
      go_wp2_with fail
      go_ret
      exact ⟨ret_int HYV.out, (by repeat (first | exact ext_refl _ | (with_reducible assumption) | refine ext_ext' ?_ _ | refine ext_alloc' ?_ _ | refine ext_drew' ?_))⟩
    · have hne : (x * y % (P : Int) != 1) = true := bne_iff_ne.2 (HINV.out.2.2.2.2 y hy1 (by omega))
      have hyV2 : y + 1 ≤ V := by omega
      clear hyV
      go_wp2_with fail
      go_roundw
      case rel => exact ⟨y + 1, rfl, by omega, hyV2, (by repeat (first | exact ext_refl _ | (with_reducible assumption) | refine ext_ext' ?_ _ | refine ext_alloc' ?_ _ | refine ext_drew' ?_))⟩
      case measure => simp [intOf]; omega
theorem l10B_any (q n : Nat) [Lt63 q] (hn : n ≤ 64) (w : World) :
    Calls Tryz.prog 39 #[.int .i64 q, .int .i64 n] w fun e w' => ∃ v', e = .returned v' ∧ Held w w' [rowI v' (tab n (bitI q))] := by
  have H0 := (Held.start w).empty 3 1
  go_enter Tryz.func39, Tryz.ntmps39
  go_wp2_with fail
  generalize World.alloc w _ = w1 at H0 ⊢
  have HH := Lib.hid H0
  clear H0
  go_loopw [5, 6] (fun u i wr => ∃ (v : Value) (k : Nat), v = u ∧ k ≤ n ∧ i = .int .i64 k ∧ Held w wr [rowI v (tab k (bitI q))]) (fun _ i _ => n - (intOf i).toNat)
  case atStart => exact ⟨_, 0, rfl, Nat.zero_le _, rfl, HH.out⟩
  case round =>
    clear HH
    obtain ⟨v, k, rfl, hk, rfl, H⟩ := hrel
    have HH := Lib.hid H
    clear H
    by_cases hlt : k < n
    · haveI : Le64 k := ⟨by omega⟩
      have hbi := bit_int q k
      have htl := tab_len k (bitI q)
      go_wp2_with (first | (at_builtin; refine wpList_append_held (m := 1) rfl _ _ _ rfl elemInt (HH.out.to (by repeat (first | exact ext_refl _ | (with_reducible assumption) | refine ext_ext' ?_ _ | refine ext_alloc' ?_ _ | refine ext_drew' ?_))) rfl rfl (Sl_new1 _ _ _) (one_lit _) (by rw [tab_len]; unfold maxLen; omega) (by rw [tab_len]; omega) ?_; intro v' w' H7; have H8 := Lib.hid H7.snoc; clear H7))
      go_roundw
      case rel => exact ⟨v', k + 1, rfl, hlt, int_succ k, by rw [tab_snoc]; exact H8.out⟩
      case measure => simp [intOf]; omega
    · have HK := Lib.hid (show k = n by omega)
      go_wp2_with fail
      go_ret
      exact ⟨_, rfl, by rw [← HK.out]; exact HH.out⟩
end
section
open Go.ChangeShapes Go.WideShapes Go.ChangeAt Go.RowKit
theorem castL_map (l : List Nat) : castL l = l.map fun m : Nat => (m : Int) := rfl
/-- the reference's result: a matrix of its own and the leading columns -/
def RedPost (W0 : World) (m n : Nat) (p : Int) (M : Mat) (e : Ending) (w' : World) : Prop := ∃ g cap ρ κ v', e = .returned (.tuple #[.slice (some ⟨g, 0, none⟩) m cap, v']) ∧ MH W0 w' g cap ρ κ m n (gsTo p m M n).1 [rowI v' (castL (gsTo p m M n).2)]
theorem Held.snocM {W0 w : World} {L : List Row} {v r : Value} {vs : List Value} {xss : List (List Int)} {xs : List Int} (hl : vs.length = xss.length) (H : Held W0 w (⟨v, 22, 1, xss.length + 1, vs ++ [r]⟩ :: rowI r xs :: (rowsI vs xss ++ L))) :
    Held W0 w (grpR v (vs ++ [r]) (xss ++ [xs]) ++ L) := by
  have e : grpR v (vs ++ [r]) (xss ++ [xs]) ++ L = ⟨v, 22, 1, xss.length + 1, vs ++ [r]⟩ :: (rowsI vs xss ++ (rowI r xs :: L)) := by
    rw [grpR, rowsI_snoc _ _ _ _ hl]; simp
  rw [e]
  exact H.front (List.Perm.cons _ (List.perm_middle (a := rowI r xs) (l₁ := rowsI vs xss) (l₂ := L)).symm)
theorem one_rowM (a : Option Addr) (n c : Nat) : ∀ u ∈ [Value.slice a n c], u.oneCell' = true := by intro u hu; simp at hu; subst hu; rfl
set_option maxRecDepth 100000 in
set_option maxHeartbeats 16000000 in
theorem redu_any (m n P : Nat) (M : Mat) (hP : primeB P = true) (hR : Resid P m n M) (hm0 : 0 < m) (hn0 : 0 < n) (hm : m ≤ 100000) (hn : n ≤ 100000) (v : Value) (w : World) (h : RowsAt w v (ftab m fun i => tab n (M i))) :
    Calls Tryz.prog 27 #[v, .int .i64 n, .int .i64 P] w (RedPost w m n P M) := by
  have hpp := primeP_of hP
  have hP0 : (0 : Int) < P := by rcases hpp with h | h | h <;> omega
  have hP1 : 2 ≤ P := by rcases hpp with h | h | h <;> omega
  have hP5 : P ≤ 5 := by rcases hpp with h | h | h <;> omega
  haveI : Pos1 P := ⟨by omega⟩
  have HPP := Lib.hid hpp
  have HPB := Lib.hid hP
  have HRES := Lib.hid hR
  have hlm : (ftab m fun i => tab n (M i)).length = m := ftab_len _ _
  obtain ⟨a0, b0, o0, c0, us, rfl, hc1, hc2, hc3, hcell⟩ := h.opn
  rw [hlm] at hcell hc1 ⊢
  have HC := Lib.hid hcell
  have H0 := (Held.start w).empty 22 1
  clear hpp hR hP h hcell hlm
  go_enter Tryz.func27, Tryz.ntmps27
  go_wp2_with fail
  generalize World.alloc w _ = w1 at H0 ⊢
  have HE := Lib.hid H0
  clear H0
  go_loopw [8, 9] (fun u i wr => ∃ (av : Value) (k : Nat) (avs : List Value), av = u ∧ k ≤ m ∧ i = .int .i64 k ∧ Hid (avs.length = k) ∧ Held w wr (grpR av avs (ftab k fun i => tab n (M i)) ++ [])) (fun _ i _ => m - (intOf i).toNat)
  case atStart => exact ⟨_, 0, [], rfl, Nat.zero_le _, rfl, Lib.hid rfl, HE.out⟩
  case round =>
    clear HE
    obtain ⟨av, k, avs, rfl, hk, rfl, HAV, H⟩ := hrel
    have HAL := Lib.hid (show avs.length = (ftab k fun i => tab n (M i)).length by rw [ftab_len]; exact HAV.out)
    by_cases hlt : k < m
    · obtain ⟨q1, q2, q3, q4⟩ := HC.out k hlt
      have e : rAt (ftab m fun i => tab n (M i)) k = tab n (M k) := by rw [rAt, List.getD, ftab_get _ hlt]; rfl
      rw [e] at q4
      obtain ⟨ra, rb, ro, rc, er, _, _, _, _⟩ := q4.opn
      rw [er] at q3 q4
      rw [tab_len] at q3 q4
      have q3' := H.cellO q1 q3
      have q1' : Old wr b0 := ⟨Nat.lt_of_lt_of_le q1.lt H.bel.size⟩
      have Q4 := Lib.hid q4
      have HH := Lib.hid H
      have hfl := ftab_len k fun i => tab n (M i)
      clear q4 q3 q1 H e er
      go_wp2_with (first | (at_builtin; (refine wpList_append_held rfl _ _ _ rfl elemInt ((HH.out.to (by repeat (first | exact ext_refl _ | (with_reducible assumption) | refine ext_ext' ?_ _ | refine ext_alloc' ?_ _ | refine ext_drew' ?_))).empty _ _) rfl rfl (IntsAt.mono Q4.out (HH.out.to (by repeat (first | exact ext_refl _ | (with_reducible assumption) | refine ext_ext' ?_ _ | refine ext_alloc' ?_ _ | refine ext_drew' ?_))).bel) (ints_oneCell _ _) (by rw [tab_len]; unfold maxLen; omega) (by rw [tab_len]; omega) ?_; intro v' w' H7; have H8a := H7.whole; obtain ⟨xa, xc, rfl⟩ := H8a.rowV; have H8 := Lib.hid H8a; clear H7 H8a)) | (at_builtin; refine wpList_append_held (m := 1) rfl _ _ _ rfl elemInts ((H8.out.swap).to (by repeat (first | exact ext_refl _ | (with_reducible assumption) | refine ext_ext' ?_ _ | refine ext_alloc' ?_ _ | refine ext_drew' ?_))) rfl rfl (Sl_new1 _ _ _) (one_rowM _ _ _) (by rw [ftab_len]; unfold maxLen; omega) (by rw [ftab_len]; omega) ?_; intro v2' w2' H9; have H10 := Lib.hid H9; clear H9))
      go_roundw
      case rel => exact ⟨v2', k + 1, avs ++ [.slice xa (tab n (M k)).length xc], rfl, hlt, int_succ k, Lib.hid (by rw [List.length_append, HAV.out]; rfl), by rw [ftab_succ]; exact Held.snocM HAL.out H10.out⟩
      case measure => simp [intOf]; omega
    · have HK := Lib.hid (show k = m by omega)
      rw [HK.out] at H HAL
      rw [ftab_len] at HAL
      obtain ⟨g, cap, ρ, κ, rfl, H2⟩ := MH_of HAL.out hm0 hn0 H
      have HH := Lib.hid (Held.front (Held.empty H2 3 1) MO_last.symm)
      clear H H2
      go_wp2_with fail
      generalize World.alloc wr _ = w0 at HH ⊢
      go_loopw [10, 11] (fun u i wr => ∃ (pv : Value) (c : Nat) (ρ κ : Nat → Nat), pv = u ∧ c ≤ n ∧ i = .int .i64 c ∧ MH w wr g cap ρ κ m n (gsTo P m M c).1 [rowI pv (castL (gsTo P m M c).2)]) (fun _ i _ => n - (intOf i).toNat)
      case atStart => exact ⟨_, 0, ρ, κ, rfl, Nat.zero_le _, rfl, HH.out⟩
      case round =>
        clear HH
        obtain ⟨pv, c, ρ, κ, rfl, hck, rfl, H⟩ := hrel
        have hred := gsTo_red HPP.out HRES.out c (by omega)
        obtain ⟨A, piv, hg⟩ : ∃ A piv, gsTo P m M c = (A, piv) := ⟨_, _, rfl⟩
        have HG := Lib.hid hg
        rw [hg] at hred H
        simp only at hred H
        have HRED := Lib.hid hred
        have hle := hred.le
        obtain ⟨pa, pc, epv⟩ := (H.front MO_last).rowVN
        by_cases hlt : c < n
        · by_cases htm : piv.length < m
          · have HH := Lib.hid H
            clear hred hg H
            subst epv
            go_wp2_with fail
            go_loopw [13, 14] (fun u i w2 => ∃ (t : Int) (d : Nat), u = .int .i64 t ∧ i = .int .i64 ((m : Int) - 1 - (d : Nat)) ∧ d ≤ m - piv.length ∧ Hid (Seen A c m ((m : Int) - 1 - (d : Nat)) t) ∧ w2 = wr) (fun _ i _ => (intOf i + 1 - piv.length).toNat)
            case atStart => exact ⟨-1, 0, rfl, by simp, Nat.zero_le _, Lib.hid (by have := Seen.start A c m; simpa using this), rfl⟩
            case round =>
              obtain ⟨t, d, rfl, rfl, hd, HS, rfl⟩ := hrel
              by_cases hdm : d < m - piv.length
              · obtain ⟨ii, hii⟩ : ∃ ii : Nat, (m : Int) - 1 - (d : Nat) = ii := ⟨m - 1 - d, by omega⟩
                have hiim : ii < m := by omega
                have hit : (piv.length : Int) ≤ ii := by omega
                have HII := Lib.hid hii
                rw [hii] at HS ⊢
                obtain ⟨a1, a2, a3⟩ := MO_cell HH.out hiim
                obtain ⟨b1, b2, b3, _⟩ := MO_row HH.out hiim hlt
                obtain ⟨x, hx⟩ : ∃ x, A ii c = x := ⟨_, rfl⟩
                rw [hx] at b1
                have HX := Lib.hid hx
                have hnx : Hid ((ii : Int) - 1 = (m : Int) - 1 - ((d + 1 : Nat) : Int)) := Lib.hid (by omega)
                clear hx hii
                by_cases hx0 : x = 0
                · have hz0 : (x != (0 : Int)) = false := by rw [hx0]; rfl
                  have HX0 := Lib.hid hx0
                  clear hx0
                  go_wp2_with fail
                  go_roundw
                  case rel => exact ⟨t, d + 1, rfl, congrArg (Value.int .i64) hnx.out, by omega, Lib.hid (by rw [← hnx.out]; exact HS.out.zero (HX.out.trans HX0.out)), by first | rfl | trivial⟩
                  case measure => simp [intOf]; omega
                · have hz0 : (x != (0 : Int)) = true := bne_iff_ne.2 hx0
                  have HX0 := Lib.hid hx0
                  clear hx0
                  go_wp2_with fail
                  go_roundw
                  case rel => exact ⟨ii, d + 1, rfl, congrArg (Value.int .i64) hnx.out, by omega, Lib.hid (by rw [← hnx.out]; exact Seen.here hiim (by rw [HX.out]; exact HX0.out)), by first | rfl | trivial⟩
                  case measure => simp [intOf]; omega
              · have HD := Lib.hid (show (m : Int) - 1 - (d : Nat) = (piv.length : Int) - 1 by omega)
                have hs := HS.out
                rw [HD.out] at hs
                rcases hs with ⟨e, hz⟩ | ⟨k, e, hk1, hk2, hk3, hk4⟩
                · subst e
                  have HGN := Lib.hid (gs_none (p := (P : Int)) (m := m) (M := M) (c := c) (by rw [HG.out]; exact fun q h1 h2 => hz q (by have h3 : piv.length ≤ q := h1; omega) h2))
                  clear hz HS
                  go_wp2_with fail
                  go_roundw
                  case rel => exact ⟨_, c + 1, ρ, κ, rfl, hlt, int_succ c, by rw [HGN.out, HG.out]; exact HH.out⟩
                  case measure => simp [intOf]; omega
                · subst e
                  have hk1' : piv.length ≤ k := by omega
                  obtain ⟨x, hx⟩ : ∃ x, A k c = x := ⟨_, rfl⟩
                  have HGS := Lib.hid (gs_some HG.out hk1' hk2 (fun q h1 h2 => hk4 q (by omega) h2) hk3)
                  have hxb := HRED.out.res k hk2 c hlt
                  rw [hx] at HGS hk3 hxb
                  have HX := Lib.hid hx
                  have hinv := invP_spec HPP.out hk3 hxb.1 hxb.2
                  obtain ⟨V, hV⟩ : ∃ V, invP (P : Int) x = V := ⟨_, rfl⟩
                  have hcall := l10I_any x P HPB.out hk3 hxb.1 hxb.2
                  rw [hV] at HGS hinv hcall
                  have HCALL := Lib.hid hcall
                  obtain ⟨hv1, hv2, hv3⟩ : 1 ≤ V ∧ V ≤ 4 ∧ V < P := ⟨hinv.2.1, hinv.2.2.1, hinv.2.2.2.1⟩
                  have HM1 := Lib.hid (swap_res HRED.out.res htm hk2)
                  have HM1x := Lib.hid (show swapR A piv.length k piv.length c = x by rw [← HX.out]; simp [swapR])
                  have HM2 := Lib.hid (scale_res (t := piv.length) (v := V) hP0 HM1.out)
                  have hneg : ¬ ((k : Int) < 0) := by omega
                  clear hV hinv hk3 hk4 hcall HS hx
                  obtain ⟨a1, a2, a3⟩ := MO_cell HH.out hk2
                  obtain ⟨t1, t2, t3⟩ := MO_cell HH.out htm
                  have HB2 := MO_put HH.out piv.length (slR ρ κ n k)
                  obtain ⟨_, u2, u3⟩ := MO_cell HB2 hk2
                  have HB3 : MH w _ g cap (sw piv.length k ρ) (sw piv.length k κ) m n (swapR A piv.length k) _ := MO_swap htm hk2 (MO_put HB2 k (slR ρ κ n piv.length))
                  clear HB2 HH
                  obtain ⟨ρ2, hρ⟩ : ∃ ρ2, sw piv.length k ρ = ρ2 := ⟨_, rfl⟩
                  obtain ⟨κ2, hκ⟩ : ∃ κ2, sw piv.length k κ = κ2 := ⟨_, rfl⟩
                  obtain ⟨M1, hM1⟩ : ∃ M1, swapR A piv.length k = M1 := ⟨_, rfl⟩
                  rw [hρ, hκ, hM1] at HB3
                  rw [hM1] at HM1 HM1x HGS HM2
                  clear hρ hκ hM1
                  obtain ⟨s1, s2, s3⟩ := MO_cell HB3 htm
                  obtain ⟨r1, r2, r3, _⟩ := MO_row HB3 htm hlt
                  rw [HM1x.out] at r1
                  have HB4 := Lib.hid HB3
                  clear HB3
                  go_wp2_with (first | (go_at_call 47; refine (HCALL.out _).mono ?_; rintro e w' ⟨rfl, xe, rfl⟩; have H5 := Lib.hid (HB4.out.ext xe)))
                  clear a1 a2 a3 t1 t2 t3 u2 u3 s1 s2 s3 r1 r2 r3 HB4
                  generalize ext _ xe = w3 at H5 ⊢
                  go_loopw [17] (fun u wr => ∃ j : Nat, u = .int .i64 j ∧ j ≤ n ∧ MH w wr g cap ρ2 κ2 m n (scTo P M1 piv.length V j) [rowI (.slice pa piv.length pc) (castL piv)]) (fun u _ => n - (intOf u).toNat)
                  case atStart => exact ⟨0, rfl, Nat.zero_le _, by rw [scTo_zero]; exact H5.out⟩
                  case round =>
                    clear H5
                    obtain ⟨j, rfl, hjn, H⟩ := hrel
                    by_cases hj : j < n
                    · obtain ⟨z, hz⟩ : ∃ z, M1 piv.length j = z := ⟨_, rfl⟩
                      have hzb := HM1.out piv.length htm j hj
                      rw [hz] at hzb
                      have HZV := Lib.hid hz
                      obtain ⟨a1, a2, a3⟩ := MO_cell H htm
                      obtain ⟨b1, b2, b3, _⟩ := MO_row H htm hj
                      rw [scTo_at, hz] at b1
                      have hms := mul_small (a := z) (b := V) (by omega) (by omega) (by omega) (by omega)
                      have w1 : IntKind.i64.wrap (z * V) = z * V := IntWalk.i64_in _ (by omega)
                      have w1' : wrap64 (z * V) = z * V := by simp only [wrap64]; omega
                      have htm' : (z * V).tmod (P : Int) = z * V % (P : Int) := Int.tmod_eq_emod_of_nonneg hms.1
                      clear hz
                      go_wp2_with fail
                      go_still_tail 17, (by kernel_rfl)
                      change wpList _ _ _ _ _ wr.drew
                      have H2 := H.to (w' := wr.drew) (by repeat (first | exact ext_refl _ | (with_reducible assumption) | refine ext_ext' ?_ _ | refine ext_alloc' ?_ _ | refine ext_drew' ?_))
                      clear a1 a2 a3 b1 b2 b3 H
                      generalize wr.drew = w4 at H2 ⊢
                      obtain ⟨a1, a2, a3⟩ := MO_cell H2 htm
                      obtain ⟨b1, b2, b3, b4⟩ := MO_row H2 htm hj
                      have H3 := Lib.hid (b4 (z * V % P))
                      clear b4 H2
                      go_wp2_with fail
                      go_roundw
                      case rel => exact ⟨j + 1, int_succ j, hj, by rw [← scTo_step, HZV.out]; exact H3.out⟩
                      case measure => simp [intOf]; omega
                    · have HJ := Lib.hid (show j = n by omega)
                      have HC := Lib.hid (show MH w wr g cap ρ2 κ2 m n (scaleR P M1 piv.length V) [rowI (.slice pa piv.length pc) (castL piv)] by
                        have e := MO_congr (g := g) (cap := cap) (φ := slR ρ2 κ2 n) (ρ := ρ2) (κ := κ2) (L := [rowI (.slice pa piv.length pc) (castL piv)]) (M := scTo P M1 piv.length V j) (M' := scaleR P M1 piv.length V) (m := m) (n := n) fun i _ j' hj' => by rw [HJ.out]; exact scTo_all hj'
                        rw [MH, ← e]; exact H)
                      clear H
                      obtain ⟨M2, hM2⟩ : ∃ M2, scaleR (P : Int) M1 piv.length V = M2 := ⟨_, rfl⟩
                      rw [hM2] at HC HGS HM2
                      clear hM2
                      go_wp2_with fail
                      go_loopw [18] (fun u w5 => ∃ i : Nat, u = .int .i64 i ∧ i ≤ m ∧ MH w w5 g cap ρ2 κ2 m n (elIn P M2 piv.length c i 0) [rowI (.slice pa piv.length pc) (castL piv)]) (fun u _ => m - (intOf u).toNat)
                      case atStart => exact ⟨0, rfl, Nat.zero_le _, by rw [elIn_zero]; exact HC.out⟩
                      case round =>
                        clear HC
                        obtain ⟨i, rfl, him, H⟩ := hrel
                        by_cases hi : i < m
                        · obtain ⟨f, hf⟩ : ∃ f, M2 i c = f := ⟨_, rfl⟩
                          have hfb := HM2.out i hi c hlt
                          rw [hf] at hfb
                          have HFF := Lib.hid hf
                          have HFB := Lib.hid hfb
                          obtain ⟨a1, a2, a3⟩ := MO_cell H hi
                          obtain ⟨b1, b2, b3, _⟩ := MO_row H hi hlt
                          rw [elIn_lo, hf] at b1
                          have HH := Lib.hid H
                          clear hf H hfb
                          go_wp2_with fail
                          clear a1 a2 a3 b1 b2 b3
                          go_loopw [20] (fun u w6 => ∃ j : Nat, u = .int .i64 j ∧ j ≤ n ∧ Hid (i = piv.length → j = 0) ∧ MH w w6 g cap ρ2 κ2 m n (elIn P M2 piv.length c i j) [rowI (.slice pa piv.length pc) (castL piv)]) (fun u _ => n - (intOf u).toNat)
                          case atStart => exact ⟨0, rfl, Nat.zero_le _, Lib.hid (fun _ => rfl), HH.out⟩
                          case round =>
                            clear HH
                            obtain ⟨j, rfl, hjn, HIJ, H⟩ := hrel
                            by_cases hit : i = piv.length
                            · have hbt : ((i : Int) != (piv.length : Int)) = false := by rw [hit]; simp
                              have hj0 := HIJ.out hit
                              have HC := Lib.hid (show MH w wr g cap ρ2 κ2 m n (elIn P M2 piv.length c (i + 1) 0) [rowI (.slice pa piv.length pc) (castL piv)] by
                                have e := MO_congr (g := g) (cap := cap) (φ := slR ρ2 κ2 n) (ρ := ρ2) (κ := κ2) (L := [rowI (.slice pa piv.length pc) (castL piv)]) (M := elIn P M2 piv.length c i 0) (M' := elIn P M2 piv.length c (i + 1) 0) (m := m) (n := n) fun i' _ j' hj' => elIn_skip HM2.out hP0 hi (.inl hit) hj'
                                rw [MH, ← e, ← hj0]; exact H)
                              have HIT := Lib.hid hit
                              clear H hit hj0
                              by_cases hjn2 : j < n
                              all_goals
                                go_wp2_with fail
                                go_roundw
                                case rel => exact ⟨i + 1, int_succ i, hi, HC.out⟩
                                case measure => simp [intOf]; omega
                            · have hbt : ((i : Int) != (piv.length : Int)) = true := bne_iff_ne.2 (by omega)
                              have HIT := Lib.hid hit
                              by_cases hj : j < n
                              · obtain ⟨a, ha⟩ : ∃ a, M2 i j = a := ⟨_, rfl⟩
                                obtain ⟨b, hb⟩ : ∃ b, M2 piv.length j = b := ⟨_, rfl⟩
                                have hab := HM2.out i hi j hj
                                have hbb := HM2.out piv.length htm j hj
                                rw [ha] at hab
                                rw [hb] at hbb
                                have HAV2 := Lib.hid ha
                                have HBV := Lib.hid hb
                                obtain ⟨a1, a2, a3⟩ := MO_cell H hi
                                obtain ⟨t1, t2, t3⟩ := MO_cell H htm
                                obtain ⟨b1, b2, b3, _⟩ := MO_row H hi hj
                                obtain ⟨d1, d2, d3, _⟩ := MO_row H htm hj
                                rw [elIn_at, ha] at b1
                                rw [elIn_t, hb] at d1
                                have hfb := HFB.out
                                have hms := mul_small (a := f) (b := b) (by omega) (by omega) (by omega) (by omega)
                                have hmid := red_mid (u := a - f * b) hP0 (by omega)
                                have w1' : wrap64 (f * b) = f * b := by simp only [wrap64]; omega
                                have w2' : wrap64 (a - f * b) = a - f * b := by simp only [wrap64]; omega
                                have w3' : wrap64 ((a - f * b).tmod (P : Int) + P) = (a - f * b).tmod (P : Int) + P := by simp only [wrap64]; omega
                                have htm' := red_val (a := a) (f := f) (b := b) hP0 hab.1 hab.2 hfb.1 hfb.2 hbb.1 hbb.2
                                clear ha hb hfb hmid
                                go_wp2_with fail
                                go_still_tail 29, (by kernel_rfl)
                                change wpList _ _ _ _ _ wr.drew
                                have H2 := H.to (w' := wr.drew) (by repeat (first | exact ext_refl _ | (with_reducible assumption) | refine ext_ext' ?_ _ | refine ext_alloc' ?_ _ | refine ext_drew' ?_))
                                clear a1 a2 a3 b1 b2 b3 t1 t2 t3 d1 d2 d3 H
                                generalize wr.drew = w4 at H2 ⊢
                                obtain ⟨a1, a2, a3⟩ := MO_cell H2 hi
                                obtain ⟨t1, t2, t3⟩ := MO_cell H2 htm
                                obtain ⟨b1, b2, b3, b4⟩ := MO_row H2 hi hj
                                obtain ⟨d1, d2, d3, _⟩ := MO_row H2 htm hj
                                have H3 := Lib.hid (b4 ((a + ((P : Int) - f) * b) % P))
                                clear b4 H2
                                go_wp2_with fail
                                go_roundw
                                case rel => exact ⟨j + 1, int_succ j, hj, Lib.hid (fun h => absurd h HIT.out), by rw [← elIn_step HIT.out, HAV2.out, HBV.out, HFF.out]; exact H3.out⟩
                                case measure => simp [intOf]; omega
                              · have HJ := Lib.hid (show j = n by omega)
                                have HC := Lib.hid (show MH w wr g cap ρ2 κ2 m n (elIn P M2 piv.length c (i + 1) 0) [rowI (.slice pa piv.length pc) (castL piv)] by
                                  have e := MO_congr (g := g) (cap := cap) (φ := slR ρ2 κ2 n) (ρ := ρ2) (κ := κ2) (L := [rowI (.slice pa piv.length pc) (castL piv)]) (M := elIn P M2 piv.length c i j) (M' := elIn P M2 piv.length c (i + 1) 0) (m := m) (n := n) fun i' _ j' hj' => by rw [HJ.out]; exact elIn_next hj'
                                  rw [MH, ← e]; exact H)
                                clear H
                                go_wp2_with fail
                                go_roundw
                                case rel => exact ⟨i + 1, int_succ i, hi, HC.out⟩
                                case measure => simp [intOf]; omega
                        · have HI := Lib.hid (show i = m by omega)
                          have HC := Lib.hid (show MH w wr g cap ρ2 κ2 m n (elimR P M2 piv.length c) [rowI (.slice pa piv.length pc) (castL piv)] by
                            have e := MO_congr (g := g) (cap := cap) (φ := slR ρ2 κ2 n) (ρ := ρ2) (κ := κ2) (L := [rowI (.slice pa piv.length pc) (castL piv)]) (M := elIn P M2 piv.length c i 0) (M' := elimR P M2 piv.length c) (m := m) (n := n) fun i' hi' j' _ => by rw [HI.out]; exact elIn_all hi'
                            rw [MH, ← e]; exact H)
                          have HR := Lib.hid (HC.out.front MO_last)
                          clear H HC
                          have hpl : piv.length ≤ 100000 := by omega
                          go_wp2_with (first | (at_builtin; refine wpList_append_held (m := 1) rfl _ _ _ rfl elemInt (HR.out.to (by repeat (first | exact ext_refl _ | (with_reducible assumption) | refine ext_ext' ?_ _ | refine ext_alloc' ?_ _ | refine ext_drew' ?_))) rfl rfl (Sl_new1 _ _ _) (one_lit _) (by rw [castL_len]; unfold maxLen; omega) (by rw [castL_len]; omega) ?_; intro v' w' H7; have H8 := Lib.hid (Held.front H7.snocN MO_last.symm); clear H7))
                          go_roundw
                          case rel => exact ⟨v', c + 1, ρ2, κ2, rfl, hlt, int_succ c, by rw [HGS.out]; exact H8.out⟩
                          case measure => simp [intOf]; omega
          · have HGS := Lib.hid (gs_stop (p := (P : Int)) (m := m) (M := M) (c := c) (n := n) (by rw [HG.out]; exact htm) hck)
            have HH := Lib.hid H
            clear hred hg H
            subst epv
            go_wp2_with fail
            go_ret2
            exact ⟨g, cap, ρ, κ, _, rfl, by rw [HGS.out, HG.out]; exact HH.out⟩
        · have HK := Lib.hid (show c = n by omega)
          have HH := Lib.hid H
          clear hred hg H
          subst epv
          go_wp2_with fail
          go_ret2
          exact ⟨g, cap, ρ, κ, _, rfl, by have e := HG.out; rw [HK.out] at e; rw [e]; exact HH.out⟩
end
section
open Go.ChangeShapes Go.WideShapes Go.ChangeAt Go.RowKit
theorem specPrime_b (p : Int) (b : Bool) (h : primeB p = b) (w : World) : Calls Tryz.prog 24 #[.int .i64 p] w fun e w' => e = .returned (.bool b) ∧ ∃ x, w' = ext w x := h ▸ specIsPrime_any p w
def arP (ks : List Int) (P : Int) (k : Nat) : Bool := allTo (fun k => btw (nth ks k) 0 (P - 1)) k
theorem arP_succ {ks : List Int} {P : Int} {k : Nat} (h : arP ks P k = true) (hk : btw (nth ks k) 0 (P - 1) = true) : arP ks P (k + 1) = true := allTo_succ h hk
theorem arP_all {ks : List Int} {P : Int} (h : arP ks P ks.length = true) : arB ks P = true := h
theorem arP_no {ks : List Int} {P : Int} {k : Nat} (hl : k < ks.length) (hk : btw (nth ks k) 0 (P - 1) = false) : arB ks P = false := allTo_false (p := fun k => btw (nth ks k) 0 (P - 1)) hl hk
theorem btw_4 {x : Int} {P : Nat} (h : btw x 0 ((P : Int) - 1) = true) (hP : P ≤ 5) : 0 ≤ x ∧ x ≤ 4 := by
  have := btw_iff.1 h
  omega
theorem sgTo_bdP {all : List Nat} {k : List Int} {b P : Nat} (hP : P ≤ 5) : ∀ i, arP k P i = true → 0 ≤ sgTo all k b i ∧ sgTo all k b i ≤ 4 * i
  | 0, _ => by simp [sgTo, iter]
  | i + 1, h => by
    have h' := allTo_true.1 h
    have ih := sgTo_bdP (all := all) (b := b) hP i (allTo_true.2 fun j hj => h' j (by omega))
    have h2 := btw_4 (h' i (by omega)) hP
    cases hb : (nthN all i).testBit b
    · rw [sgTo_f hb]; omega
    · rw [sgTo_t hb]; omega
end
section
open Go.ChangeShapes Go.WideShapes Go.ChangeAt Go.RowKit
def hasL (all : List Nat) (z : Int) : Bool := all.any fun m => (m : Int) == z
theorem hasL_iff {all : List Nat} {z : Int} : hasL all z = true ↔ ∃ m ∈ all, (m : Int) = z := by simp [hasL]
theorem hasL_nat {all : List Nat} {m : Nat} : hasL all m = true ↔ m ∈ all := by
  rw [hasL_iff]
  constructor
  · rintro ⟨n, hn, e⟩
    have : n = m := by omega
    subst this; exact hn
  · intro h; exact ⟨m, h, rfl⟩
theorem hasL_at {all : List Nat} {z : Int} {k : Nat} (hk : k < all.length) (h : ((nthN all k : Nat) : Int) = z) : hasL all z = true := hasL_iff.2 ⟨nthN all k, by rw [nthN_get hk]; exact List.getElem_mem hk, h⟩
theorem hasL_no {all : List Nat} {z : Int} (h : ∀ k, k < all.length → ((nthN all k : Nat) : Int) ≠ z) : hasL all z = false := by
  cases hh : hasL all z
  · rfl
  · obtain ⟨m, hm, e⟩ := hasL_iff.1 hh
    obtain ⟨k, hk, rfl⟩ := List.getElem_of_mem hm
    exact absurd e (by rw [← nthN_get hk]; exact h k hk)
theorem hasInt_any (all : List Nat) (z : Int) (v : Value) (w : World) (h : IntsAt w v (castL all)) :
    Calls Tryz.prog 41 #[v, .int .i64 z] w fun e w' => e = .returned (.bool (hasL all z)) ∧ ∃ x, w' = ext w x := by
  obtain ⟨a, b, o, cap, rfl, hc1, hc2, hc3, hcell⟩ := h.opnN
  have HC := Lib.hid hcell
  clear hcell h
  go_enter Tryz.func41, Tryz.ntmps41
  go_wp2_with fail
  go_loopw [9] (fun i wr => ∃ k : Nat, k ≤ all.length ∧ i = .int .i64 k ∧ Hid (∀ q, q < k → ((nthN all q : Nat) : Int) ≠ z) ∧ ∃ x, wr = ext w x) (fun i _ => all.length - (intOf i).toNat)
  case atStart => exact ⟨0, Nat.zero_le _, rfl, Lib.hid fun q hq => by omega, (by repeat (first | exact ext_refl _ | (with_reducible assumption) | refine ext_ext' ?_ _ | refine ext_alloc' ?_ _ | refine ext_drew' ?_))⟩
  case round =>
    obtain ⟨k, hk, rfl, HN, x, rfl⟩ := hrel
    by_cases hlt : k < all.length
    · obtain ⟨q1, q2, q3⟩ := HC.out k hlt
      by_cases he : ((nthN all k : Nat) : Int) = z
      · have hq : (((nthN all k : Nat) : Int) == z) = true := by simp [he]
        have HE := Lib.hid (hasL_at hlt he)
        clear he
        go_wp2_with fail
        go_ret
        exact ⟨ret_bool HE.out.symm, (by repeat (first | exact ext_refl _ | (with_reducible assumption) | refine ext_ext' ?_ _ | refine ext_alloc' ?_ _ | refine ext_drew' ?_))⟩
      · have hq : (((nthN all k : Nat) : Int) == z) = false := by simp [he]
        have HE := Lib.hid he
        clear he
        go_wp2_with fail
        go_roundw
        case rel => exact ⟨k + 1, hlt, int_succ k, Lib.hid fun q hq => by
          rcases Nat.lt_or_ge q k with e | e
          · exact HN.out q e
          · obtain rfl : q = k := by omega
            exact HE.out, (by repeat (first | exact ext_refl _ | (with_reducible assumption) | refine ext_ext' ?_ _ | refine ext_alloc' ?_ _ | refine ext_drew' ?_))⟩
        case measure => simp [intOf]; omega
    · have HE := Lib.hid (hasL_no fun q hq => HN.out q (by omega))
      go_wp2_with fail
      go_ret
      exact ⟨ret_bool HE.out.symm, (by repeat (first | exact ext_refl _ | (with_reducible assumption) | refine ext_ext' ?_ _ | refine ext_alloc' ?_ _ | refine ext_drew' ?_))⟩
theorem l7Has_any (all : List Nat) (z : Int) (v : Value) (w : World) (h : IntsAt w v (castL all)) :
    Calls Tryz.prog 28 #[v, .int .i64 z] w fun e w' => e = .returned (.bool (hasL all z)) ∧ ∃ x, w' = ext w x := by
  obtain ⟨a, b, o, cap, rfl, hc1, hc2, hc3, hcell⟩ := h.opnN
  have HC := Lib.hid hcell
  clear hcell h
  go_enter Tryz.func28, Tryz.ntmps28
  go_wp2_with fail
  go_loopw [5] (fun i wr => ∃ k : Nat, k ≤ all.length ∧ i = .int .i64 k ∧ Hid (∀ q, q < k → ((nthN all q : Nat) : Int) ≠ z) ∧ ∃ x, wr = ext w x) (fun i _ => all.length - (intOf i).toNat)
  case atStart => exact ⟨0, Nat.zero_le _, rfl, Lib.hid fun q hq => by omega, (by repeat (first | exact ext_refl _ | (with_reducible assumption) | refine ext_ext' ?_ _ | refine ext_alloc' ?_ _ | refine ext_drew' ?_))⟩
  case round =>
    obtain ⟨k, hk, rfl, HN, x, rfl⟩ := hrel
    by_cases hlt : k < all.length
    · obtain ⟨q1, q2, q3⟩ := HC.out k hlt
      by_cases he : ((nthN all k : Nat) : Int) = z
      · have hq : (((nthN all k : Nat) : Int) == z) = true := by simp [he]
        have HE := Lib.hid (hasL_at hlt he)
        clear he
        go_wp2_with fail
        go_ret
        exact ⟨ret_bool HE.out.symm, (by repeat (first | exact ext_refl _ | (with_reducible assumption) | refine ext_ext' ?_ _ | refine ext_alloc' ?_ _ | refine ext_drew' ?_))⟩
      · have hq : (((nthN all k : Nat) : Int) == z) = false := by simp [he]
        have HE := Lib.hid he
        clear he
        go_wp2_with fail
        go_roundw
        case rel => exact ⟨k + 1, hlt, int_succ k, Lib.hid fun q hq => by
          rcases Nat.lt_or_ge q k with e | e
          · exact HN.out q e
          · obtain rfl : q = k := by omega
            exact HE.out, (by repeat (first | exact ext_refl _ | (with_reducible assumption) | refine ext_ext' ?_ _ | refine ext_alloc' ?_ _ | refine ext_drew' ?_))⟩
        case measure => simp [intOf]; omega
    · have HE := Lib.hid (hasL_no fun q hq => HN.out q (by omega))
      go_wp2_with fail
      go_ret
      exact ⟨ret_bool HE.out.symm, (by repeat (first | exact ext_refl _ | (with_reducible assumption) | refine ext_ext' ?_ _ | refine ext_alloc' ?_ _ | refine ext_drew' ?_))⟩
end
section
open Go.ChangeShapes Go.WideShapes Go.ChangeAt Go.RowKit
/-- the rows: a placement's bits -/
def bitM (all : List Nat) : Mat := fun i j => bitI (nthN all i) j
theorem bitI_bd (m b : Nat) : 0 ≤ bitI m b ∧ bitI m b ≤ 1 := by
  unfold bitI
  split <;> omega
theorem bitM_res {p : Int} (hp : primeP p) (all : List Nat) (m n : Nat) : Resid p m n (bitM all) := fun i _ j _ => by
  have := bitI_bd (nthN all i) j
  unfold bitM
  rcases hp with h | h | h <;> omega
/-- the weights of a column without a leading one -/
def wvTo (p : Int) (M : Mat) (piv : List Nat) (c : Nat) : Nat → Nat → Int := iter (fun k f => upd f (nthN piv k) ((p - M k c) % p)) (upd (fun _ => 0) c 1)
theorem wvTo_succ (p : Int) (M : Mat) (piv : List Nat) (c k : Nat) : wvTo p M piv c (k + 1) = upd (wvTo p M piv c k) (nthN piv k) ((p - M k c) % p) := rfl
theorem wvTo_bd {p : Int} (hp : primeP p) (M : Mat) (piv : List Nat) (c : Nat) : ∀ k j, 0 ≤ wvTo p M piv c k j ∧ wvTo p M piv c k j < p
  | 0, j => by
    show 0 ≤ upd (fun _ => (0 : Int)) c 1 j ∧ upd (fun _ => (0 : Int)) c 1 j < p
    simp only [upd]
    split <;> (rcases hp with h | h | h <;> omega)
  | k + 1, j => by
    have hp0 : 0 < p := by rcases hp with h | h | h <;> omega
    rw [wvTo_succ]
    unfold upd
    split
    · exact ⟨Int.emod_nonneg _ (by omega), Int.emod_lt_of_pos _ hp0⟩
    · exact wvTo_bd hp M piv c k j
def wvL (p : Int) (n : Nat) (M : Mat) (piv : List Nat) (c : Nat) : List Int := tab n (wvTo p M piv c piv.length)
theorem wvL_ar {P : Nat} (hp : primeP (P : Int)) (n : Nat) (M : Mat) (piv : List Nat) (c : Nat) : arB (wvL P n M piv c) P = true := by
  unfold arB
  rw [allTo_true]
  intro k hk
  rw [wvL, tab_len] at hk
  rw [wvL, tab_nth _ hk]
  have := wvTo_bd hp M piv c piv.length k
  exact btw_iff.2 (by omega)
/-- whether the column forbids -/
def fwOk (p : Int) (n : Nat) (mask : Nat) (M : Mat) (piv : List Nat) (c : Nat) : Bool := !hasL piv (c : Int) && decide (wsM mask (wvL p n M piv c) p ≠ 0)
def fwC (p : Int) (n : Nat) (mask : Nat) (M : Mat) (piv : List Nat) : Option (List Int) := ((List.range n).find? (fwOk p n mask M piv)).map (wvL p n M piv)
theorem fwC_none {p : Int} {n mask : Nat} {M : Mat} {piv : List Nat} (h : ∀ q, q < n → fwOk p n mask M piv q = false) : fwC p n mask M piv = none := by
  rw [fwC, List.find?_eq_none.2 fun q hq => by rw [h q (List.mem_range.1 hq)]; simp]; rfl
theorem fwC_some {p : Int} {n mask : Nat} {M : Mat} {piv : List Nat} {c : Nat} (hc : c < n) (h : ∀ q, q < c → fwOk p n mask M piv q = false) (h1 : fwOk p n mask M piv c = true) : fwC p n mask M piv = some (wvL p n M piv c) := by
  rw [fwC, List.find?_range_eq_some.2 ⟨h1, List.mem_range.2 hc, fun q hq => by rw [h q hq]; rfl⟩]; rfl
def fwV (wd : Int) (rows : List Int) (pss : List (List (Int × Int))) (p : Int) : Option (List Int) :=
  if probB wd rows pss && primeB p then fwC p (wd.toNat * rows.length) (maskR wd rows) (gsTo p (alN wd rows pss).length (bitM (alN wd rows pss)) (wd.toNat * rows.length)).1 (gsTo p (alN wd rows pss).length (bitM (alN wd rows pss)) (wd.toNat * rows.length)).2 else none
theorem fwV_b {wd : Int} {rows : List Int} {pss : List (List (Int × Int))} {p : Int} (h : probB wd rows pss = false) : fwV wd rows pss p = none := by simp [fwV, h]
theorem fwV_p {wd : Int} {rows : List Int} {pss : List (List (Int × Int))} {p : Int} (h : primeB p = false) : fwV wd rows pss p = none := by simp [fwV, h]
theorem fwV_yes {W : Nat} {rows : List Int} {pss : List (List (Int × Int))} {p : Int} (h : probB W rows pss = true) (h2 : primeB p = true) :
    fwV W rows pss p = fwC p (W * rows.length) (maskR W rows) (gsTo p (alN W rows pss).length (bitM (alN W rows pss)) (W * rows.length)).1 (gsTo p (alN W rows pss).length (bitM (alN W rows pss)) (W * rows.length)).2 := by simp [fwV, h, h2]
theorem fwV_len {wd : Int} {rows : List Int} {pss : List (List (Int × Int))} {p : Int} : ((fwV wd rows pss p).getD []).length ≤ 36 := by
  unfold fwV
  split
  · rename_i h
    have hr := (probB_parts (Bool.and_eq_true_iff.1 h).1).1
    obtain ⟨W, rfl, _, h2, _, h4, _⟩ := regB_bd hr
    unfold fwC
    cases List.find? _ _ with
    | none => simp
    | some c =>
      simp only [Option.map_some, Option.getD_some, wvL, tab_len, Int.toNat_natCast]
      exact Nat.mul_le_mul h2 h4
  · simp
theorem fwOk_has {p : Int} {n mask : Nat} {M : Mat} {piv : List Nat} {c : Nat} (h : hasL piv (c : Int) = true) : fwOk p n mask M piv c = false := by simp [fwOk, h]
theorem fwOk_zero {p : Int} {n mask : Nat} {M : Mat} {piv : List Nat} {c : Nat} (h : wsM mask (wvL p n M piv c) p = 0) : fwOk p n mask M piv c = false := by simp [fwOk, h]
theorem fwOk_yes {p : Int} {n mask : Nat} {M : Mat} {piv : List Nat} {c : Nat} (h : hasL piv (c : Int) = false) (h2 : ¬ wsM mask (wvL p n M piv c) p = 0) : fwOk p n mask M piv c = true := by simp [fwOk, h, h2]
/-- a row that is filled with bits from the left -/
def btTo (m j : Nat) : Nat → Int := fun q => if q < j then bitI m q else 0
theorem btTo_step (m j n : Nat) : tab n (upd (btTo m j) j (bitI m j)) = tab n (btTo m (j + 1)) := tab_congr fun q _ => by
  by_cases e : q = j
  · subst e; simp [upd, btTo]
  · have : (q < j + 1) = (q < j) := propext ⟨fun _ => by omega, fun _ => by omega⟩
    simp [upd, btTo, e, this]
theorem btTo_all {m n j : Nat} (h : j = n) : tab n (btTo m j) = tab n (bitI m) := tab_congr fun q hq => by subst h; simp [btTo, hq]
theorem btTo_zero (m n : Nat) : (tab n fun _ => 0) = tab n (btTo m 0) := tab_congr fun q _ => by simp [btTo]
theorem gs_zero (p : Int) (M : Mat) (n : Nat) : gsTo p 0 M n = (M, []) := gs_stop (c := 0) (by simp [gsTo, iter]) (Nat.zero_le _)
theorem Held.nilM {W0 w : World} {L : List Row} (H : Held W0 w L) : Held W0 w (grpR (.slice none 0 0) [] [] ++ L) := ⟨H.bel, (fun r hr => by
  rcases List.mem_cons.1 hr with rfl | hr
  · exact World.ownsRow_nil _ _ _ _
  · exact H.own r hr), List.Pairwise.cons (fun r hr g hg => by simp [Value.ownBlock] at hg) H.apart⟩
theorem Held.snocM2 {W0 w : World} {L : List Row} {v r : Value} {vs : List Value} {xss : List (List Int)} {xs : List Int} (hl : vs.length = xss.length) (H : Held W0 w (⟨v, 22, 1, xss.length + 1, vs ++ [r]⟩ :: rowI r xs :: (rowsI vs xss ++ L))) :
    Held W0 w (grpR v (vs ++ [r]) (xss ++ [xs]) ++ L) := by
  have e : grpR v (vs ++ [r]) (xss ++ [xs]) ++ L = ⟨v, 22, 1, xss.length + 1, vs ++ [r]⟩ :: (rowsI vs xss ++ (rowI r xs :: L)) := by
    rw [grpR, rowsI_snoc _ _ _ _ hl]; simp
  rw [e]
  exact H.front (List.Perm.cons _ (List.perm_middle (a := rowI r xs) (l₁ := rowsI vs xss) (l₂ := L)).symm)
theorem one_rowM2 (a : Option Addr) (n c : Nat) : ∀ u ∈ [Value.slice a n c], u.oneCell' = true := by intro u hu; simp at hu; subst hu; rfl
/-- the matrix' cells behind two other rows -/
theorem MO_two {W0 wr : World} {g cap m n : Nat} {ρ κ : Nat → Nat} {M : Mat} {L : List Row} {r1 r2 : Row} (H : Held W0 wr (r1 :: r2 :: MO g cap m (slR ρ κ n) ρ κ n M L)) {i j : Nat} (hi : i < m) (hj : j < n) :
    (wr.cell? ⟨g, i, none⟩ = some (.slice (some ⟨ρ i, 0, none⟩) n (κ i)) ∧ Old wr g) ∧ wr.cell? ⟨ρ i, j, none⟩ = some (.int .i64 (M i j)) ∧ Old wr (ρ i) := by
  have H2 : Held W0 wr (MO g cap m (slR ρ κ n) ρ κ n M (r1 :: r2 :: L)) := H.front ((MO_last.trans (List.Perm.cons _ MO_last)).symm)
  obtain ⟨a1, _, a3⟩ := MO_cell H2 hi
  obtain ⟨b1, _, b3, _⟩ := MO_row H2 hi hj
  exact ⟨⟨a1, a3⟩, b1, b3⟩
theorem MO_join {W0 w w' : World} {g cap m n : Nat} {φ : Nat → Value} {ρ κ : Nat → Nat} {M : Mat} {L : List Row} {r : Row} (H : Held W0 w L) (K : Held w w' (MO g cap m φ ρ κ n M [r])) : Held W0 w' (MO g cap m φ ρ κ n M (r :: L)) := by
  have := H.join K
  have e : MO g cap m φ ρ κ n M [r] ++ L = MO g cap m φ ρ κ n M (r :: L) := by simp [MO]
  rwa [e] at this
end
end Go.Proofs.YtmehmpammjcnkabGreat
