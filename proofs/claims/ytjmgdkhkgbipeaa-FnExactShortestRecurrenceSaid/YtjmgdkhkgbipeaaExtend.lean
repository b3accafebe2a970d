/- ExtendBy of the program and of the reference. -/
import Derived.Test.YtjmgdkhkgbipeaaRows
import Derived.WalkKit
import Derived.ProofKit
import Derived.OpenShut
import Derived.BigQuiet
import Derived.Lib.Hide
import Derived.Deep.QuietTactic
import Derived.Outline
import Derived.Test.YtjmgdkhkgbipeaaDots
import Derived.Test.YtjmgdkhkgbipeaaMarks
namespace Go.Proofs.Ytjmgdkhkgbipeaa
open Go.ChangeShapes Go.WideShapes Go.ChangeAt Go.RowKit
set_option linter.unusedVariables false
def nxt (c out : List Int) : Int := dotTo out c out.length c.length
def extTo (l c : List Int) : Nat → List Int := iter (fun _ out => out ++ [nxt c out]) l
theorem extTo_succ (l c : List Int) (k : Nat) : extTo l c (k + 1) = extTo l c k ++ [nxt c (extTo l c k)] := rfl
theorem extTo_len (l c : List Int) (k : Nat) : (extTo l c k).length = l.length + k := by
  induction k with
  | zero => rfl
  | succ k ih => rw [extTo_succ, List.length_append, ih]; rfl
def extOK (l c : List Int) (k : Nat) : Bool := numB (nxt c (extTo l c k))
def preB (l c : List Int) (n : Int) : Bool := coefB c && decide (l.length ≤ 40) && numsB l && decide (c.length ≤ l.length) && btw n 0 20 && decide ((l.length : Int) + n ≤ 40)
def extV (l c : List Int) (n : Int) : Option (List Int) := if preB l c n && allTo (extOK l c) n.toNat then some (extTo l c n.toNat) else none
theorem extV_pre {l c : List Int} {n : Int} (h : preB l c n = false) : extV l c n = none := by simp [extV, h]
theorem extV_no {l c : List Int} {n : Int} {k : Nat} (hk : k < n.toNat) (h : extOK l c k = false) : extV l c n = none := by simp [extV, allTo_false hk h]
theorem extV_yes {l c : List Int} {n : Int} (h : preB l c n = true) (h2 : allTo (extOK l c) n.toNat = true) : extV l c n = some (extTo l c n.toNat) := by simp [extV, h, h2]
theorem numsB_snoc (xs : List Int) (x : Int) (h : numsB xs = true) : numsB (xs ++ [x]) = numB x := by
  have e : ∀ k, k < xs.length → nth (xs ++ [x]) k = nth xs k := fun k hk => by simp [nth, List.getD, List.getElem?_append_left hk]
  have e2 : nth (xs ++ [x]) xs.length = x := by simp [nth]
  have h' := allTo_true.1 h
  cases hx : numB x with
  | true =>
    unfold numsB
    rw [allTo_true]
    intro k hk
    by_cases hk2 : k < xs.length
    · rw [e k hk2]; exact h' k hk2
    · have : k = xs.length := by simp at hk; omega
      rw [this, e2, hx]
  | false => exact allTo_false (k := xs.length) (by simp) (by rw [e2, hx])
/-- the pair that both return -/
def ExtPost (w : World) (r : Option (List Int)) (e : Ending) (w' : World) : Prop :=
  ∃ v', e = .returned (.tuple #[v', .bool r.isSome]) ∧ (∃ x, w' = ext w x) ∧ OwnI w' w.heap.size v' (r.getD [])
theorem ExtPost.fail {w w' : World} {r : Option (List Int)} (h : r = none) (hx : ∃ x, w' = ext w x) : ExtPost w r (.returned (.tuple #[.slice none 0 0, .bool false])) w' := by
  subst h; exact ⟨_, rfl, hx, World.ownsRow_nil _ _ _ _⟩
theorem Held.nilI {W0 w : World} {L : List Row} (H : Held W0 w L) : Held W0 w (⟨.slice none 0 0, 3, 1, 0, []⟩ :: L) := ⟨H.bel, (fun r hr => by
  rcases List.mem_cons.1 hr with rfl | hr
  · exact World.ownsRow_nil _ _ _ _
  · exact H.own r hr), List.Pairwise.cons (fun r hr g hg => by simp [Value.ownBlock] at hg) H.apart⟩
theorem Held.whole {W0 w : World} {L : List Row} {v : Value} {xs : List Int} (H : Held W0 w (⟨v, 3, 1, 0 + xs.length, [] ++ xs.map iv⟩ :: L)) : Held W0 w (rowI v xs :: L) := by
  rw [Nat.zero_add, List.nil_append] at H; exact H
theorem copyInts_any (xs : List Int) (v : Value) (w : World) (h : IntsAt w v xs) (hs : xs.length ≤ 1099511627776) :
    Calls Try.prog 57 #[v] w fun e w' => ∃ v', e = .returned v' ∧ Held w w' [rowI v' xs] := by
  go_enter Try.func57, Try.ntmps57
  go_wp2_with (first | (at_builtin; refine wpList_append_held rfl _ _ _ rfl elemInt ((Held.start w).to (by repeat (first | exact ext_refl _ | (with_reducible assumption) | refine ext_ext' ?_ _ | refine ext_alloc' ?_ _ | refine ext_drew' ?_))).nilI rfl rfl (by exact h) (ints_oneCell _ _) (by unfold maxLen; omega) (by omega) ?_; intro v' w' H))
  go_ret
  exact ⟨_, rfl, H.whole⟩
theorem preB_mk {l c : List Int} {n : Int} (h1 : coefB c = true) (h2 : l.length ≤ 40) (h3 : numsB l = true) (h4 : c.length ≤ l.length) (h5 : btw n 0 20 = true) (h6 : (l.length : Int) + n ≤ 40) : preB l c n = true := by
  simp [preB, h1, h2, h3, h4, h5, h6]
theorem one_lit (x : Int) : ∀ u ∈ [Value.int .i64 x], u.oneCell' = true := by intro u hu; simp at hu; subst hu; rfl
theorem Held.snoc {W0 w : World} {L : List Row} {v : Value} {xs : List Int} {x : Int} (H : Held W0 w (⟨v, 3, 1, xs.length + 1, xs.map iv ++ [.int .i64 x]⟩ :: L)) : Held W0 w (rowI v (xs ++ [x]) :: L) := by
  have e : (xs ++ [x]).map iv = xs.map iv ++ [.int .i64 x] := by simp [iv]
  rw [rowI, e, List.length_append]; exact H
theorem ExtPost.got {w w' : World} {r : Option (List Int)} {v : Value} {xs : List Int} (h : r = Option.some xs) (H : Held w w' [rowI v xs]) : ExtPost w r (.returned (.tuple #[v, .bool true])) w' := by
  subst h; exact ⟨_, rfl, ext_of H.bel, H.own _ List.mem_cons_self⟩
theorem ExtPost.no {w w' : World} {r : Option (List Int)} {L : List Row} (h : r = Option.none) (H : Held w w' L) : ExtPost w r (.returned (.tuple #[.slice none 0 0, .bool false])) w' := ExtPost.fail h (ext_of H.bel)
theorem extV_all {l c : List Int} {m k : Nat} (h : preB l c m = true) (hk : k = m) (h2 : allTo (extOK l c) k = true) : extV l c m = Option.some (extTo l c k) := by
  subst hk
  have e : (k : Int).toNat = k := by simp
  have := extV_yes h (by rw [e]; exact h2)
  rw [e] at this; exact this
theorem extV_cut {l c : List Int} {m k : Nat} (hk : k < m) (h2 : extOK l c k = false) : extV l c m = Option.none := extV_no (by simp; omega) h2
theorem next_nxt (l c : List Int) (vl vc : Value) (w : World) (hl : IntsAt w vl l) (hc : IntsAt w vc c) (h1 : c.length ≤ l.length) :
    Calls Try.prog 58 #[vl, vc] w fun e w' => e = .returned (.int .i64 (nxt c l)) ∧ ∃ x, w' = ext w x := next_any l c vl vc w hl hc h1
set_option maxHeartbeats 2000000 in
theorem implExtend_any (l c : List Int) (n : Int) (vl vc : Value) (w : World) (hl : IntsAt w vl l) (hc : IntsAt w vc c) (wn : (Lit.int .i64 n).wf = true) :
    Calls Try.prog 16 #[vl, vc, .int .i64 n] w (ExtPost w (extV l c n)) := by
  have hl0 := hl
  have hc0 := hc
  obtain ⟨a, b, o, cap, rfl, hl1, hl2, hl3, hlc⟩ := hl.opn
  obtain ⟨a', b', o', cap', rfl, hc1, hc2, hc3, hcc⟩ := hc.opn
  clear hcc hlc hl hc
  have hn63 : -9223372036854775808 ≤ n ∧ n ≤ 9223372036854775807 := by simpa [Lit.wf, IntKind.min, IntKind.max, IntKind.signed, IntKind.bits] using wn
  obtain ⟨n63, n63'⟩ := hn63
  by_cases hp : preB l c n = true
  · have HP := Lib.hid hp
    simp only [preB, Bool.and_eq_true, decide_eq_true_eq, btw_iff] at hp
    obtain ⟨⟨⟨⟨⟨p1, p2⟩, p3⟩, p4⟩, p5⟩, p6⟩ := hp
    have p5' : btw n 0 20 = true := btw_iff.2 p5
    obtain ⟨m, rfl⟩ : ∃ m : Nat, n = m := ⟨n.toNat, by omega⟩
    obtain ⟨p7, p8⟩ := p5
    have hcl : 1 ≤ c.length := coefB_ge p1
    have HL3 := Lib.hid p3
    go_enter Try.func16, Try.ntmps16
    go_wp2_with (first | (go_at_call 54; refine (isCoefficients_any _ _ _ (by first | (with_reducible assumption) | (with_reducible exact IntsAt.mono (by assumption) (bel_of_ext (by repeat (first | exact ext_refl _ | (with_reducible assumption) | refine ext_ext' ?_ _ | refine ext_alloc' ?_ _ | refine ext_drew' ?_)))))).mono ?_; rintro e w' ⟨rfl, xe, rfl⟩) | (go_at_call 55; refine (areNumbers_any _ _ _ (by first | (with_reducible assumption) | (with_reducible exact IntsAt.mono (by assumption) (bel_of_ext (by repeat (first | exact ext_refl _ | (with_reducible assumption) | refine ext_ext' ?_ _ | refine ext_alloc' ?_ _ | refine ext_drew' ?_)))))).mono ?_; rintro e w' ⟨rfl, xe, rfl⟩) | (go_at_call 56; refine (between_any _ _ _ _).mono ?_; rintro e w' ⟨rfl, xe, rfl⟩) | (go_at_call 57; refine (copyInts_any _ _ _ (by first | (with_reducible assumption) | (with_reducible exact IntsAt.mono (by assumption) (bel_of_ext (by repeat (first | exact ext_refl _ | (with_reducible assumption) | refine ext_ext' ?_ _ | refine ext_alloc' ?_ _ | refine ext_drew' ?_))))) (by omega)).mono ?_; rintro e w' ⟨u, rfl, H⟩; have H := ((Held.start w).to (by repeat (first | exact ext_refl _ | (with_reducible assumption) | refine ext_ext' ?_ _ | refine ext_alloc' ?_ _ | refine ext_drew' ?_))).join H))
    go_loopw [8, 44] (fun v i wr => ∃ k : Nat, k ≤ m ∧ i = .int .i64 k ∧ Held w wr [rowI v (extTo l c k)] ∧ allTo (extOK l c) k = true ∧ numsB (extTo l c k) = true) (fun _ i _ => m - (intOf i).toNat)
    case atStart => exact ⟨0, Nat.zero_le _, rfl, H, rfl, HL3.out⟩
    case round =>
      obtain ⟨k, hk, rfl, H, hall, hnum⟩ := hrel
      have HA := Lib.hid hall
      have HN := Lib.hid hnum
      have io := H.ints0
      have ic := H.oldI hc0
      have hel := extTo_len l c k
      have hel1 : c.length ≤ (extTo l c k).length := by omega
      have hel2 : (extTo l c k).length ≤ 40 := by omega
      clear hall hnum hel
      by_cases hlt : k < m
      · cases hx : extOK l c k
        all_goals
          have hb := numsB_snoc _ (nxt c (extTo l c k)) HN.out
          rw [show numB (nxt c (extTo l c k)) = extOK l c k from rfl, hx] at hb
          go_wp2_with (first | (go_at_call 58; refine (next_nxt _ _ _ _ _ (by first | (with_reducible assumption) | (with_reducible exact IntsAt.mono (by assumption) (bel_of_ext (by repeat (first | exact ext_refl _ | (with_reducible assumption) | refine ext_ext' ?_ _ | refine ext_alloc' ?_ _ | refine ext_drew' ?_))))) (by first | (with_reducible assumption) | (with_reducible exact IntsAt.mono (by assumption) (bel_of_ext (by repeat (first | exact ext_refl _ | (with_reducible assumption) | refine ext_ext' ?_ _ | refine ext_alloc' ?_ _ | refine ext_drew' ?_))))) hel1).mono ?_; rintro e w' ⟨rfl, xe, rfl⟩) | (at_builtin; refine wpList_append_held rfl _ _ _ rfl elemInt (H.to (by repeat (first | exact ext_refl _ | (with_reducible assumption) | refine ext_ext' ?_ _ | refine ext_alloc' ?_ _ | refine ext_drew' ?_))) rfl rfl (Sl_new1 _ _ _) (one_lit _) (by unfold maxLen; omega) (by omega) ?_; intro v' w' H; have H := H.snoc; have io := H.ints0) | (go_at_call 55; refine (areNumbers_any _ _ _ (by first | (with_reducible assumption) | (with_reducible exact IntsAt.mono (by assumption) (bel_of_ext (by repeat (first | exact ext_refl _ | (with_reducible assumption) | refine ext_ext' ?_ _ | refine ext_alloc' ?_ _ | refine ext_drew' ?_)))))).mono ?_; rintro e w' ⟨rfl, xe, rfl⟩))
        · go_ret2
          exact ExtPost.no (extV_cut hlt hx) (H.to (by repeat (first | exact ext_refl _ | (with_reducible assumption) | refine ext_ext' ?_ _ | refine ext_alloc' ?_ _ | refine ext_drew' ?_)))
        · go_roundw
          case rel => exact ⟨k + 1, hlt, int_succ k, H.to (by repeat (first | exact ext_refl _ | (with_reducible assumption) | refine ext_ext' ?_ _ | refine ext_alloc' ?_ _ | refine ext_drew' ?_)), allTo_succ HA.out hx, hb⟩
          case measure => simp [intOf]; omega
      · have HK := Lib.hid (show k = m by omega)
        go_wp2_with fail
        go_ret2
        exact ExtPost.got (extV_all HP.out HK.out HA.out) H
  · have HP := Lib.hid (extV_pre (l := l) (c := c) (n := n) (by simpa using hp))
    have HN := Lib.hid hp
    clear hp
    cases h1 : coefB c
    · skip
      go_enter Try.func16, Try.ntmps16
      go_wp2_with (first | (go_at_call 54; refine (isCoefficients_any _ _ _ (by first | (with_reducible assumption) | (with_reducible exact IntsAt.mono (by assumption) (bel_of_ext (by repeat (first | exact ext_refl _ | (with_reducible assumption) | refine ext_ext' ?_ _ | refine ext_alloc' ?_ _ | refine ext_drew' ?_)))))).mono ?_; rintro e w' ⟨rfl, xe, rfl⟩) | (go_at_call 55; refine (areNumbers_any _ _ _ (by first | (with_reducible assumption) | (with_reducible exact IntsAt.mono (by assumption) (bel_of_ext (by repeat (first | exact ext_refl _ | (with_reducible assumption) | refine ext_ext' ?_ _ | refine ext_alloc' ?_ _ | refine ext_drew' ?_)))))).mono ?_; rintro e w' ⟨rfl, xe, rfl⟩) | (go_at_call 56; refine (between_any _ _ _ _).mono ?_; rintro e w' ⟨rfl, xe, rfl⟩) | (go_at_call 57; refine (copyInts_any _ _ _ (by first | (with_reducible assumption) | (with_reducible exact IntsAt.mono (by assumption) (bel_of_ext (by repeat (first | exact ext_refl _ | (with_reducible assumption) | refine ext_ext' ?_ _ | refine ext_alloc' ?_ _ | refine ext_drew' ?_))))) (by omega)).mono ?_; rintro e w' ⟨u, rfl, H⟩; have H := ((Held.start w).to (by repeat (first | exact ext_refl _ | (with_reducible assumption) | refine ext_ext' ?_ _ | refine ext_alloc' ?_ _ | refine ext_drew' ?_))).join H))
      go_ret2
      exact ExtPost.fail HP.out (by repeat (first | exact ext_refl _ | (with_reducible assumption) | refine ext_ext' ?_ _ | refine ext_alloc' ?_ _ | refine ext_drew' ?_))
    by_cases h2 : (40 : Int) < l.length
    · skip
      go_enter Try.func16, Try.ntmps16
      go_wp2_with (first | (go_at_call 54; refine (isCoefficients_any _ _ _ (by first | (with_reducible assumption) | (with_reducible exact IntsAt.mono (by assumption) (bel_of_ext (by repeat (first | exact ext_refl _ | (with_reducible assumption) | refine ext_ext' ?_ _ | refine ext_alloc' ?_ _ | refine ext_drew' ?_)))))).mono ?_; rintro e w' ⟨rfl, xe, rfl⟩) | (go_at_call 55; refine (areNumbers_any _ _ _ (by first | (with_reducible assumption) | (with_reducible exact IntsAt.mono (by assumption) (bel_of_ext (by repeat (first | exact ext_refl _ | (with_reducible assumption) | refine ext_ext' ?_ _ | refine ext_alloc' ?_ _ | refine ext_drew' ?_)))))).mono ?_; rintro e w' ⟨rfl, xe, rfl⟩) | (go_at_call 56; refine (between_any _ _ _ _).mono ?_; rintro e w' ⟨rfl, xe, rfl⟩) | (go_at_call 57; refine (copyInts_any _ _ _ (by first | (with_reducible assumption) | (with_reducible exact IntsAt.mono (by assumption) (bel_of_ext (by repeat (first | exact ext_refl _ | (with_reducible assumption) | refine ext_ext' ?_ _ | refine ext_alloc' ?_ _ | refine ext_drew' ?_))))) (by omega)).mono ?_; rintro e w' ⟨u, rfl, H⟩; have H := ((Held.start w).to (by repeat (first | exact ext_refl _ | (with_reducible assumption) | refine ext_ext' ?_ _ | refine ext_alloc' ?_ _ | refine ext_drew' ?_))).join H))
      go_ret2
      exact ExtPost.fail HP.out (by repeat (first | exact ext_refl _ | (with_reducible assumption) | refine ext_ext' ?_ _ | refine ext_alloc' ?_ _ | refine ext_drew' ?_))
    cases h3 : numsB l
    · skip
      go_enter Try.func16, Try.ntmps16
      go_wp2_with (first | (go_at_call 54; refine (isCoefficients_any _ _ _ (by first | (with_reducible assumption) | (with_reducible exact IntsAt.mono (by assumption) (bel_of_ext (by repeat (first | exact ext_refl _ | (with_reducible assumption) | refine ext_ext' ?_ _ | refine ext_alloc' ?_ _ | refine ext_drew' ?_)))))).mono ?_; rintro e w' ⟨rfl, xe, rfl⟩) | (go_at_call 55; refine (areNumbers_any _ _ _ (by first | (with_reducible assumption) | (with_reducible exact IntsAt.mono (by assumption) (bel_of_ext (by repeat (first | exact ext_refl _ | (with_reducible assumption) | refine ext_ext' ?_ _ | refine ext_alloc' ?_ _ | refine ext_drew' ?_)))))).mono ?_; rintro e w' ⟨rfl, xe, rfl⟩) | (go_at_call 56; refine (between_any _ _ _ _).mono ?_; rintro e w' ⟨rfl, xe, rfl⟩) | (go_at_call 57; refine (copyInts_any _ _ _ (by first | (with_reducible assumption) | (with_reducible exact IntsAt.mono (by assumption) (bel_of_ext (by repeat (first | exact ext_refl _ | (with_reducible assumption) | refine ext_ext' ?_ _ | refine ext_alloc' ?_ _ | refine ext_drew' ?_))))) (by omega)).mono ?_; rintro e w' ⟨u, rfl, H⟩; have H := ((Held.start w).to (by repeat (first | exact ext_refl _ | (with_reducible assumption) | refine ext_ext' ?_ _ | refine ext_alloc' ?_ _ | refine ext_drew' ?_))).join H))
      go_ret2
      exact ExtPost.fail HP.out (by repeat (first | exact ext_refl _ | (with_reducible assumption) | refine ext_ext' ?_ _ | refine ext_alloc' ?_ _ | refine ext_drew' ?_))
    by_cases h4 : l.length < c.length
    · skip
      go_enter Try.func16, Try.ntmps16
      go_wp2_with (first | (go_at_call 54; refine (isCoefficients_any _ _ _ (by first | (with_reducible assumption) | (with_reducible exact IntsAt.mono (by assumption) (bel_of_ext (by repeat (first | exact ext_refl _ | (with_reducible assumption) | refine ext_ext' ?_ _ | refine ext_alloc' ?_ _ | refine ext_drew' ?_)))))).mono ?_; rintro e w' ⟨rfl, xe, rfl⟩) | (go_at_call 55; refine (areNumbers_any _ _ _ (by first | (with_reducible assumption) | (with_reducible exact IntsAt.mono (by assumption) (bel_of_ext (by repeat (first | exact ext_refl _ | (with_reducible assumption) | refine ext_ext' ?_ _ | refine ext_alloc' ?_ _ | refine ext_drew' ?_)))))).mono ?_; rintro e w' ⟨rfl, xe, rfl⟩) | (go_at_call 56; refine (between_any _ _ _ _).mono ?_; rintro e w' ⟨rfl, xe, rfl⟩) | (go_at_call 57; refine (copyInts_any _ _ _ (by first | (with_reducible assumption) | (with_reducible exact IntsAt.mono (by assumption) (bel_of_ext (by repeat (first | exact ext_refl _ | (with_reducible assumption) | refine ext_ext' ?_ _ | refine ext_alloc' ?_ _ | refine ext_drew' ?_))))) (by omega)).mono ?_; rintro e w' ⟨u, rfl, H⟩; have H := ((Held.start w).to (by repeat (first | exact ext_refl _ | (with_reducible assumption) | refine ext_ext' ?_ _ | refine ext_alloc' ?_ _ | refine ext_drew' ?_))).join H))
      go_ret2
      exact ExtPost.fail HP.out (by repeat (first | exact ext_refl _ | (with_reducible assumption) | refine ext_ext' ?_ _ | refine ext_alloc' ?_ _ | refine ext_drew' ?_))
    cases h5 : btw n 0 20
    · skip
      go_enter Try.func16, Try.ntmps16
      go_wp2_with (first | (go_at_call 54; refine (isCoefficients_any _ _ _ (by first | (with_reducible assumption) | (with_reducible exact IntsAt.mono (by assumption) (bel_of_ext (by repeat (first | exact ext_refl _ | (with_reducible assumption) | refine ext_ext' ?_ _ | refine ext_alloc' ?_ _ | refine ext_drew' ?_)))))).mono ?_; rintro e w' ⟨rfl, xe, rfl⟩) | (go_at_call 55; refine (areNumbers_any _ _ _ (by first | (with_reducible assumption) | (with_reducible exact IntsAt.mono (by assumption) (bel_of_ext (by repeat (first | exact ext_refl _ | (with_reducible assumption) | refine ext_ext' ?_ _ | refine ext_alloc' ?_ _ | refine ext_drew' ?_)))))).mono ?_; rintro e w' ⟨rfl, xe, rfl⟩) | (go_at_call 56; refine (between_any _ _ _ _).mono ?_; rintro e w' ⟨rfl, xe, rfl⟩) | (go_at_call 57; refine (copyInts_any _ _ _ (by first | (with_reducible assumption) | (with_reducible exact IntsAt.mono (by assumption) (bel_of_ext (by repeat (first | exact ext_refl _ | (with_reducible assumption) | refine ext_ext' ?_ _ | refine ext_alloc' ?_ _ | refine ext_drew' ?_))))) (by omega)).mono ?_; rintro e w' ⟨u, rfl, H⟩; have H := ((Held.start w).to (by repeat (first | exact ext_refl _ | (with_reducible assumption) | refine ext_ext' ?_ _ | refine ext_alloc' ?_ _ | refine ext_drew' ?_))).join H))
      go_ret2
      exact ExtPost.fail HP.out (by repeat (first | exact ext_refl _ | (with_reducible assumption) | refine ext_ext' ?_ _ | refine ext_alloc' ?_ _ | refine ext_drew' ?_))
    by_cases h6 : (40 : Int) < l.length + n
    · obtain ⟨q1, q2⟩ := btw_iff.1 h5
      go_enter Try.func16, Try.ntmps16
      go_wp2_with (first | (go_at_call 54; refine (isCoefficients_any _ _ _ (by first | (with_reducible assumption) | (with_reducible exact IntsAt.mono (by assumption) (bel_of_ext (by repeat (first | exact ext_refl _ | (with_reducible assumption) | refine ext_ext' ?_ _ | refine ext_alloc' ?_ _ | refine ext_drew' ?_)))))).mono ?_; rintro e w' ⟨rfl, xe, rfl⟩) | (go_at_call 55; refine (areNumbers_any _ _ _ (by first | (with_reducible assumption) | (with_reducible exact IntsAt.mono (by assumption) (bel_of_ext (by repeat (first | exact ext_refl _ | (with_reducible assumption) | refine ext_ext' ?_ _ | refine ext_alloc' ?_ _ | refine ext_drew' ?_)))))).mono ?_; rintro e w' ⟨rfl, xe, rfl⟩) | (go_at_call 56; refine (between_any _ _ _ _).mono ?_; rintro e w' ⟨rfl, xe, rfl⟩) | (go_at_call 57; refine (copyInts_any _ _ _ (by first | (with_reducible assumption) | (with_reducible exact IntsAt.mono (by assumption) (bel_of_ext (by repeat (first | exact ext_refl _ | (with_reducible assumption) | refine ext_ext' ?_ _ | refine ext_alloc' ?_ _ | refine ext_drew' ?_))))) (by omega)).mono ?_; rintro e w' ⟨u, rfl, H⟩; have H := ((Held.start w).to (by repeat (first | exact ext_refl _ | (with_reducible assumption) | refine ext_ext' ?_ _ | refine ext_alloc' ?_ _ | refine ext_drew' ?_))).join H))
      go_ret2
      exact ExtPost.fail HP.out (by repeat (first | exact ext_refl _ | (with_reducible assumption) | refine ext_ext' ?_ _ | refine ext_alloc' ?_ _ | refine ext_drew' ?_))
    exact absurd (preB_mk h1 (by omega) h3 (by omega) h5 (by omega)) HN.out
theorem ExtPost.failE {w w' : World} {r : Option (List Int)} {v : Value} {L : List Row} (h : r = Option.none) (H : Held w w' (⟨v, 3, 1, 0, []⟩ :: L)) : ExtPost w r (.returned (.tuple #[v, .bool false])) w' := by
  subst h; exact ⟨_, rfl, ext_of H.bel, H.own _ List.mem_cons_self⟩
theorem coefB_mk {c : List Int} (h1 : fineB c = true) (h2 : c.length ≠ 0) (h3 : c.length ≤ 8) : coefB c = true := by
  simp only [fineB, Bool.and_eq_true] at h1
  simp only [coefB, h1.1, Bool.and_true]
  exact btw_iff.2 ⟨by omega, by omega⟩
theorem fineB_coef {c : List Int} (h : coefB c = true) : fineB c = true ∧ c.length ≠ 0 ∧ c.length ≤ 8 := by
  simp only [coefB, Bool.and_eq_true, btw_iff] at h
  exact ⟨by simp [fineB, h.2]; omega, by omega, by omega⟩
theorem l12Value_nxt (l c : List Int) (vl vc : Value) (w : World) (hl : IntsAt w vl l) (hc : IntsAt w vc c) (h1 : c.length ≤ l.length) :
    Calls Try.prog 53 #[vl, vc, .int .i64 l.length] w fun e w' => e = .returned (.int .i64 (nxt c l)) ∧ ∃ x, w' = ext w x := l12Value_any l c l.length vl vc w hl hc h1 (Nat.le_refl _)
theorem l1In_num (x : Int) (w : World) : Calls Try.prog 52 #[.int .i64 x, .int .i64 (-1000000000), .int .i64 1000000000] w fun e w' => e = .returned (.bool (numB x)) ∧ ∃ x, w' = ext w x := l1In_any _ _ _ w
set_option maxHeartbeats 2000000 in
theorem specExtend_any (l c : List Int) (n : Int) (vl vc : Value) (w : World) (hl : IntsAt w vl l) (hc : IntsAt w vc c) (wn : (Lit.int .i64 n).wf = true) :
    Calls Try.prog 14 #[vl, vc, .int .i64 n] w (ExtPost w (extV l c n)) := by
  have hl0 := hl
  have hc0 := hc
  obtain ⟨a, b, o, cap, rfl, hl1, hl2, hl3, hlc⟩ := hl.opn
  obtain ⟨a', b', o', cap', rfl, hc1, hc2, hc3, hcc⟩ := hc.opn
  clear hcc hlc hl hc
  have hn63 : -9223372036854775808 ≤ n ∧ n ≤ 9223372036854775807 := by simpa [Lit.wf, IntKind.min, IntKind.max, IntKind.signed, IntKind.bits] using wn
  obtain ⟨n63, n63'⟩ := hn63
  by_cases hp : preB l c n = true
  · have HP := Lib.hid hp
    simp only [preB, Bool.and_eq_true, decide_eq_true_eq, btw_iff] at hp
    obtain ⟨⟨⟨⟨⟨p1, p2⟩, p3⟩, p4⟩, p5⟩, p6⟩ := hp
    have p5' : btw n 0 20 = true := btw_iff.2 p5
    obtain ⟨m, rfl⟩ : ∃ m : Nat, n = m := ⟨n.toNat, by omega⟩
    obtain ⟨p7, p8⟩ := p5
    obtain ⟨f1, f2, f3⟩ := fineB_coef p1
    have f2' : ((c.length : Int) == 0) = false := beq_eq_false_iff_ne.2 (by omega)
    have f4 : fineB l = true := by simp [fineB, p3]; omega
    have hcl : 1 ≤ c.length := by omega
    have HL3 := Lib.hid p3
    clear p1 p3 f2
    go_enter Try.func14, Try.ntmps14
    go_wp2_with (first | (go_at_call 51; refine (l12Fine_any _ _ _ (by first | (with_reducible assumption) | (with_reducible exact IntsAt.mono (by assumption) (bel_of_ext (by repeat (first | exact ext_refl _ | (with_reducible assumption) | refine ext_ext' ?_ _ | refine ext_alloc' ?_ _ | refine ext_drew' ?_)))))).mono ?_; rintro e w' ⟨rfl, xe, rfl⟩) | (go_at_call 52; refine (l1In_any _ _ _ _).mono ?_; rintro e w' ⟨rfl, xe, rfl⟩) | (at_builtin; refine wpList_append_held rfl _ _ _ rfl elemInt (((Held.start w).to (by repeat (first | exact ext_refl _ | (with_reducible assumption) | refine ext_ext' ?_ _ | refine ext_alloc' ?_ _ | refine ext_drew' ?_))).empty _ _) rfl rfl (by exact IntsAt.mono hl0 (bel_of_ext (by repeat (first | exact ext_refl _ | (with_reducible assumption) | refine ext_ext' ?_ _ | refine ext_alloc' ?_ _ | refine ext_drew' ?_)))) (ints_oneCell _ _) (by unfold maxLen; omega) (by omega) ?_; intro v' w' H; have H := H.whole))
    go_loopw [8, 9] (fun v i wr => ∃ k : Nat, k ≤ m ∧ i = .int .i64 k ∧ Held w wr [rowI v (extTo l c k)] ∧ allTo (extOK l c) k = true) (fun _ i _ => m - (intOf i).toNat)
    case atStart => exact ⟨0, Nat.zero_le _, rfl, H, rfl⟩
    case round =>
      clear H
      obtain ⟨k, hk, rfl, H, hall⟩ := hrel
      have HA := Lib.hid hall
      have io := H.ints0
      have ic := H.oldI hc0
      have hel := extTo_len l c k
      have hel1 : c.length ≤ (extTo l c k).length := by omega
      have hel2 : (extTo l c k).length ≤ 40 := by omega
      obtain ⟨au, cu, hshape⟩ := own_slice (H.own _ List.mem_cons_self)
      simp only at hshape
      subst hshape
      clear hall hel
      by_cases hlt : k < m
      · cases hx : extOK l c k
        all_goals
          have hb : numB (nxt c (extTo l c k)) = extOK l c k := rfl
          rw [hx] at hb
          go_wp2_with (first | (go_at_call 53; refine (l12Value_nxt _ _ _ _ _ (by first | (with_reducible assumption) | (with_reducible exact IntsAt.mono (by assumption) (bel_of_ext (by repeat (first | exact ext_refl _ | (with_reducible assumption) | refine ext_ext' ?_ _ | refine ext_alloc' ?_ _ | refine ext_drew' ?_))))) (by first | (with_reducible assumption) | (with_reducible exact IntsAt.mono (by assumption) (bel_of_ext (by repeat (first | exact ext_refl _ | (with_reducible assumption) | refine ext_ext' ?_ _ | refine ext_alloc' ?_ _ | refine ext_drew' ?_))))) hel1).mono ?_; rintro e w' ⟨rfl, xe, rfl⟩) | (go_at_call 52; refine (l1In_num _ _).mono ?_; rintro e w' ⟨rfl, xe, rfl⟩) | (at_builtin; refine wpList_append_held rfl _ _ _ rfl elemInt (H.to (by repeat (first | exact ext_refl _ | (with_reducible assumption) | refine ext_ext' ?_ _ | refine ext_alloc' ?_ _ | refine ext_drew' ?_))) rfl rfl (Sl_new1 _ _ _) (one_lit _) (by unfold maxLen; omega) (by omega) ?_; intro v' w' H; have H := H.snoc))
        · go_ret2
          exact ExtPost.failE (extV_cut hlt hx) ((H.to (by repeat (first | exact ext_refl _ | (with_reducible assumption) | refine ext_ext' ?_ _ | refine ext_alloc' ?_ _ | refine ext_drew' ?_))).empty _ _)
        · go_roundw
          case rel => exact ⟨k + 1, hlt, int_succ k, H.to (by repeat (first | exact ext_refl _ | (with_reducible assumption) | refine ext_ext' ?_ _ | refine ext_alloc' ?_ _ | refine ext_drew' ?_)), allTo_succ HA.out hx⟩
          case measure => simp [intOf]; omega
      · have HK := Lib.hid (show k = m by omega)
        go_wp2_with fail
        go_ret2
        exact ExtPost.got (extV_all HP.out HK.out HA.out) H
  · have HP := Lib.hid (extV_pre (l := l) (c := c) (n := n) (by simpa using hp))
    have HN := Lib.hid hp
    clear hp
    cases h1 : fineB l
    · skip
      go_enter Try.func14, Try.ntmps14
      go_wp2_with (first | (go_at_call 51; refine (l12Fine_any _ _ _ (by first | (with_reducible assumption) | (with_reducible exact IntsAt.mono (by assumption) (bel_of_ext (by repeat (first | exact ext_refl _ | (with_reducible assumption) | refine ext_ext' ?_ _ | refine ext_alloc' ?_ _ | refine ext_drew' ?_)))))).mono ?_; rintro e w' ⟨rfl, xe, rfl⟩) | (go_at_call 52; refine (l1In_any _ _ _ _).mono ?_; rintro e w' ⟨rfl, xe, rfl⟩))
      go_ret2
      exact ExtPost.failE HP.out (((Held.start w).to (by repeat (first | exact ext_refl _ | (with_reducible assumption) | refine ext_ext' ?_ _ | refine ext_alloc' ?_ _ | refine ext_drew' ?_))).empty _ _)
    cases h2 : fineB c
    · skip
      go_enter Try.func14, Try.ntmps14
      go_wp2_with (first | (go_at_call 51; refine (l12Fine_any _ _ _ (by first | (with_reducible assumption) | (with_reducible exact IntsAt.mono (by assumption) (bel_of_ext (by repeat (first | exact ext_refl _ | (with_reducible assumption) | refine ext_ext' ?_ _ | refine ext_alloc' ?_ _ | refine ext_drew' ?_)))))).mono ?_; rintro e w' ⟨rfl, xe, rfl⟩) | (go_at_call 52; refine (l1In_any _ _ _ _).mono ?_; rintro e w' ⟨rfl, xe, rfl⟩))
      go_ret2
      exact ExtPost.failE HP.out (((Held.start w).to (by repeat (first | exact ext_refl _ | (with_reducible assumption) | refine ext_ext' ?_ _ | refine ext_alloc' ?_ _ | refine ext_drew' ?_))).empty _ _)
    by_cases h3 : ((c.length : Int) == 0) = true
    · skip
      go_enter Try.func14, Try.ntmps14
      go_wp2_with (first | (go_at_call 51; refine (l12Fine_any _ _ _ (by first | (with_reducible assumption) | (with_reducible exact IntsAt.mono (by assumption) (bel_of_ext (by repeat (first | exact ext_refl _ | (with_reducible assumption) | refine ext_ext' ?_ _ | refine ext_alloc' ?_ _ | refine ext_drew' ?_)))))).mono ?_; rintro e w' ⟨rfl, xe, rfl⟩) | (go_at_call 52; refine (l1In_any _ _ _ _).mono ?_; rintro e w' ⟨rfl, xe, rfl⟩))
      go_ret2
      exact ExtPost.failE HP.out (((Held.start w).to (by repeat (first | exact ext_refl _ | (with_reducible assumption) | refine ext_ext' ?_ _ | refine ext_alloc' ?_ _ | refine ext_drew' ?_))).empty _ _)
    by_cases h4 : (8 : Int) < c.length
    · have h3' : ((c.length : Int) == 0) = false := by simpa using h3
      go_enter Try.func14, Try.ntmps14
      go_wp2_with (first | (go_at_call 51; refine (l12Fine_any _ _ _ (by first | (with_reducible assumption) | (with_reducible exact IntsAt.mono (by assumption) (bel_of_ext (by repeat (first | exact ext_refl _ | (with_reducible assumption) | refine ext_ext' ?_ _ | refine ext_alloc' ?_ _ | refine ext_drew' ?_)))))).mono ?_; rintro e w' ⟨rfl, xe, rfl⟩) | (go_at_call 52; refine (l1In_any _ _ _ _).mono ?_; rintro e w' ⟨rfl, xe, rfl⟩))
      go_ret2
      exact ExtPost.failE HP.out (((Held.start w).to (by repeat (first | exact ext_refl _ | (with_reducible assumption) | refine ext_ext' ?_ _ | refine ext_alloc' ?_ _ | refine ext_drew' ?_))).empty _ _)
    by_cases h5 : l.length < c.length
    · have h3' : ((c.length : Int) == 0) = false := by simpa using h3
      go_enter Try.func14, Try.ntmps14
      go_wp2_with (first | (go_at_call 51; refine (l12Fine_any _ _ _ (by first | (with_reducible assumption) | (with_reducible exact IntsAt.mono (by assumption) (bel_of_ext (by repeat (first | exact ext_refl _ | (with_reducible assumption) | refine ext_ext' ?_ _ | refine ext_alloc' ?_ _ | refine ext_drew' ?_)))))).mono ?_; rintro e w' ⟨rfl, xe, rfl⟩) | (go_at_call 52; refine (l1In_any _ _ _ _).mono ?_; rintro e w' ⟨rfl, xe, rfl⟩))
      go_ret2
      exact ExtPost.failE HP.out (((Held.start w).to (by repeat (first | exact ext_refl _ | (with_reducible assumption) | refine ext_ext' ?_ _ | refine ext_alloc' ?_ _ | refine ext_drew' ?_))).empty _ _)
    cases h6 : btw n 0 20
    · have h3' : ((c.length : Int) == 0) = false := by simpa using h3
      go_enter Try.func14, Try.ntmps14
      go_wp2_with (first | (go_at_call 51; refine (l12Fine_any _ _ _ (by first | (with_reducible assumption) | (with_reducible exact IntsAt.mono (by assumption) (bel_of_ext (by repeat (first | exact ext_refl _ | (with_reducible assumption) | refine ext_ext' ?_ _ | refine ext_alloc' ?_ _ | refine ext_drew' ?_)))))).mono ?_; rintro e w' ⟨rfl, xe, rfl⟩) | (go_at_call 52; refine (l1In_any _ _ _ _).mono ?_; rintro e w' ⟨rfl, xe, rfl⟩))
      go_ret2
      exact ExtPost.failE HP.out (((Held.start w).to (by repeat (first | exact ext_refl _ | (with_reducible assumption) | refine ext_ext' ?_ _ | refine ext_alloc' ?_ _ | refine ext_drew' ?_))).empty _ _)
    by_cases h7 : (40 : Int) < l.length + n
    · have h3' : ((c.length : Int) == 0) = false := by simpa using h3
      have hl40 : (l.length : Int) ≤ 40 := by simp [fineB] at h1; omega
      obtain ⟨q1, q2⟩ := btw_iff.1 h6
      go_enter Try.func14, Try.ntmps14
      go_wp2_with (first | (go_at_call 51; refine (l12Fine_any _ _ _ (by first | (with_reducible assumption) | (with_reducible exact IntsAt.mono (by assumption) (bel_of_ext (by repeat (first | exact ext_refl _ | (with_reducible assumption) | refine ext_ext' ?_ _ | refine ext_alloc' ?_ _ | refine ext_drew' ?_)))))).mono ?_; rintro e w' ⟨rfl, xe, rfl⟩) | (go_at_call 52; refine (l1In_any _ _ _ _).mono ?_; rintro e w' ⟨rfl, xe, rfl⟩))
      go_ret2
      exact ExtPost.failE HP.out (((Held.start w).to (by repeat (first | exact ext_refl _ | (with_reducible assumption) | refine ext_ext' ?_ _ | refine ext_alloc' ?_ _ | refine ext_drew' ?_))).empty _ _)
    have h1' := h1
    simp only [fineB, Bool.and_eq_true, decide_eq_true_eq] at h1'
    exact absurd (preB_mk (coefB_mk h2 (by simp at h3; simp [h3]) (by omega)) (by omega) h1'.1 (by omega) h6 (by omega)) HN.out
theorem extV_len (l c : List Int) (n : Int) : ((extV l c n).getD []).length ≤ 40 := by
  cases h : extV l c n with
  | none => simp
  | some xs =>
    simp only [Option.getD_some]
    unfold extV at h
    split at h
    · rename_i hh
      simp only [Bool.and_eq_true] at hh
      have hp := hh.1
      simp only [preB, Bool.and_eq_true, decide_eq_true_eq, btw_iff] at hp
      cases h
      rw [extTo_len]
      omega
    · cases h
end Go.Proofs.Ytjmgdkhkgbipeaa
