/- Slices of slices of int; groups of rows that lie apart. -/
import Derived.Test.YtklikfgikeicoaaRows
import Derived.WalkKit
import Derived.ProofKit
import Derived.OpenShut
import Derived.BigQuiet
import Derived.Lib.Hide
import Derived.Deep.QuietTactic
import Derived.Outline
import Derived.Test.YtklikfgikeicoaaMarks
namespace Go.Proofs.Ytklikfgikeicoaa
open Go.ChangeShapes Go.WideShapes Go.ChangeAt Go.RowKit
set_option linter.unusedVariables false
def vAt (vs : List Value) (k : Nat) : Value := vs.getD k undef
def rAt (xss : List (List Int)) (k : Nat) : List Int := xss.getD k []
def RowsAt (w : World) (v : Value) (xss : List (List Int)) : Prop :=
  ∃ vs : List Value, Sl w 1 v xss.length vs ∧ ∀ k, k < xss.length → IntsAt w (vAt vs k) (rAt xss k)
theorem RowsAt.mono {w w' : World} {v : Value} {xss : List (List Int)} (h : RowsAt w v xss) (hb : Below w.heap.size w w') : RowsAt w' v xss := by
  obtain ⟨vs, h1, h2⟩ := h
  exact ⟨vs, h1.mono hb, fun k hk => (h2 k hk).mono hb⟩
theorem infoInts : (Try.prog.info? 30).map (fun i => i.size) = some 1 := by kernel_rfl
theorem infoInts3 : (Try.prog.info? 30).map (fun i => (i.zero, i.size, i.bytes)) = some (some (.slice none 0 0), 1, 24) := by kernel_rfl
theorem elemInts : Elem Try.prog 24 30 1 24 (.slice none 0 0) := ⟨Try.underlying24, infoInts3, rfl, by decide⟩
theorem RowsAt.opn {w : World} {v : Value} {xss : List (List Int)} (h : RowsAt w v xss) :
    ∃ a b o cap vs, v = .slice a xss.length cap ∧ xss.length ≤ cap ∧ xss.length ≤ 9223372036854775807 ∧ cap ≤ 9223372036854775807 ∧ ∀ k, k < xss.length → Old w b ∧ (∀ w', (Instr.indexAt 24 (.slice a xss.length cap) (.int .i64 k)).run Try.prog w' = .ok (.pointer (some ⟨b, o + k, none⟩)) w') ∧
      w.cell? ⟨b, o + k, none⟩ = some (vAt vs k) ∧ IntsAt w (vAt vs k) (rAt xss k) := by
  obtain ⟨vs, h0, hr⟩ := h
  have hlen : vs.length = xss.length := by obtain ⟨_, _, _, _, _, _, _, h3, _⟩ := h0; simpa using h3
  obtain ⟨a, b, o, cap, rfl, h1, h2, h3, h4⟩ := Sl.idx h0 Try.underlying24 infoInts
  refine ⟨a, b, o, cap, vs, rfl, h1, h2, h3, fun k hk => ?_⟩
  obtain ⟨g1, g2, g3⟩ := h4 k hk
  refine ⟨g1, fun w' => by have := g2 w'; rwa [Nat.mul_one] at this, ?_, hr k hk⟩
  have := g3 0 (by omega)
  rw [Nat.mul_one, Nat.add_zero, Nat.add_zero] at this
  rw [this, vAt, List.getD, List.getElem?_eq_getElem (by omega)]
  rfl
/-- inner rows -/
def rowsI (vs : List Value) (xss : List (List Int)) : List Row := List.zipWith rowI vs xss
theorem rowsI_snoc (vs : List Value) (xss : List (List Int)) (v : Value) (xs : List Int) (h : vs.length = xss.length) : rowsI (vs ++ [v]) (xss ++ [xs]) = rowsI vs xss ++ [rowI v xs] := by
  simp [rowsI, List.zipWith_append h]
theorem rowsI_mem {vs : List Value} {xss : List (List Int)} {k : Nat} (h : vs.length = xss.length) (hk : k < xss.length) : rowI (vAt vs k) (rAt xss k) ∈ rowsI vs xss := by
  have h1 : k < vs.length := by omega
  have : (rowsI vs xss)[k]? = some (rowI (vAt vs k) (rAt xss k)) := by
    simp [rowsI, List.getElem?_zipWith, vAt, rAt, List.getD, h1, hk]
  exact List.mem_of_getElem? this
/-- a slice of rows that the call has made: the outer row and the inner ones -/
def grpR (v : Value) (vs : List Value) (xss : List (List Int)) : List Row := ⟨v, 30, 1, xss.length, vs⟩ :: rowsI vs xss
abbrev grpI (v : Value) (xs : List Int) : List Row := [rowI v xs]
/-! ### groups -/
def HeldG (W0 w : World) (G : List (List Row)) : Prop := Held W0 w G.flatten
theorem HeldG.start (w : World) : HeldG w w [] := Held.start w
theorem HeldG.bel {W0 w : World} {G : List (List Row)} (H : HeldG W0 w G) : Below W0.heap.size W0 w := Held.bel H
theorem HeldG.ext {W0 w : World} {G : List (List Row)} (H : HeldG W0 w G) (x : Ext) : HeldG W0 (ext w x) G := Held.ext H x
theorem HeldG.to {W0 w w' : World} {G : List (List Row)} (H : HeldG W0 w G) (h : ∃ x, w' = Proofs.Ytklikfgikeicoaa.ext w x) : HeldG W0 w' G := Held.to H h
theorem HeldG.push {W0 w w' : World} {G : List (List Row)} {g : List Row} (H : HeldG W0 w G) (K : Held w w' g) : HeldG W0 w' (g :: G) := Held.join H K
theorem HeldG.pushI {W0 w w' : World} {G : List (List Row)} {v : Value} {xs : List Int} (H : HeldG W0 w G) (h : ∃ x, w' = Proofs.Ytklikfgikeicoaa.ext w x) (ho : OwnI w' w.heap.size v xs) : HeldG W0 w' (grpI v xs :: G) := H.push (Held.fresh ho (ext_refl w) h)
theorem HeldG.pull {W0 w : World} {G : List (List Row)} {g : List Row} (H : HeldG W0 w G) (i : Nat) (h : G[i]? = some g) : HeldG W0 w (g :: G.eraseIdx i) := Held.front H (perm_pull G i h).flatten
theorem HeldG.row {W0 w : World} {G : List (List Row)} (H : HeldG W0 w G) {g : List Row} {v : Value} {e sz n : Nat} {cs : List Value} (hg : g ∈ G) (hr : (⟨v, e, sz, n, cs⟩ : Row) ∈ g) : Sl w sz v n cs := Held.sl H (List.mem_flatten.2 ⟨g, hg, hr⟩)
theorem HeldG.ints {W0 w : World} {G : List (List Row)} (H : HeldG W0 w G) {v : Value} {xs : List Int} (hg : grpI v xs ∈ G) : IntsAt w v xs := H.row hg List.mem_cons_self
theorem HeldG.oldI {W0 w : World} {G : List (List Row)} (H : HeldG W0 w G) {v : Value} {xs : List Int} (h : IntsAt W0 v xs) : IntsAt w v xs := h.mono H.bel
theorem HeldG.oldR {W0 w : World} {G : List (List Row)} (H : HeldG W0 w G) {v : Value} {xs : List (List Int)} (h : RowsAt W0 v xs) : RowsAt w v xs := h.mono H.bel
theorem HeldG.rows {W0 w : World} {G : List (List Row)} (H : HeldG W0 w G) {v : Value} {vs : List Value} {xss : List (List Int)} (hl : vs.length = xss.length) (hg : grpR v vs xss ∈ G) : RowsAt w v xss :=
  ⟨vs, H.row hg List.mem_cons_self, fun _ hk => H.row hg (List.mem_cons_of_mem _ (rowsI_mem hl hk))⟩
theorem Held.rows {W0 w : World} {L : List Row} {v : Value} {vs : List Value} {xss : List (List Int)} (H : Held W0 w (grpR v vs xss ++ L)) (hl : vs.length = xss.length) : RowsAt w v xss :=
  ⟨vs, Held.sl H (List.mem_append_left _ List.mem_cons_self), fun _ hk => Held.sl H (List.mem_append_left _ (List.mem_cons_of_mem _ (rowsI_mem hl hk)))⟩
theorem markIntS_heldG {W0 : World} {G : List (List Row)} (xs : List Int) (v : Value) (k : Int) (w : World) (H : HeldG W0 w (grpI v xs :: G)) (h0 : 0 ≤ k) (h1 : k ≤ 1099511627776) (hs : xs.length ≤ 1099511627776) :
    Calls Try.prog 18 #[v, .int .i64 k] w fun e w' => e = .returned (.int .i64 (k + xs.length)) ∧ HeldG W0 w' (grpI v (marks k xs.length) :: G) := markIntS_held xs v k w H h0 h1 hs
theorem HeldG.rows2 {W0 w : World} {G : List (List Row)} (H : HeldG W0 w G) {v : Value} {vs : List Value} {xss : List (List Int)} (hg : grpR v vs xss ∈ G) (hl : vs.length = xss.length) : RowsAt w v xss := H.rows hl hg
/-! ### reading, comparing, measuring -/
def eqRows (a b : List (List Int)) : Bool := decide (a.length = b.length) && allTo (fun k => eqInts (rAt a k) (rAt b k)) a.length
theorem eqRows_self (a : List (List Int)) : eqRows a a = true := by simp [eqRows, allTo_true, eqInts_self]
theorem eqIntS_b (xs ys : List Int) (v u : Value) (b : Bool) (hb : eqInts xs ys = b) (w : World) (h : IntsAt w v xs) (h' : IntsAt w u ys) :
    Calls Try.prog 17 #[v, u] w fun e w' => e = .returned (.bool b) ∧ ∃ x, w' = ext w x := hb ▸ eqIntS_any xs ys v u w h h'
theorem eqIntSS_any (xs ys : List (List Int)) (v u : Value) (w : World) (h : RowsAt w v xs) (h' : RowsAt w u ys) :
    Calls Try.prog 12 #[v, u] w fun e w' => e = .returned (.bool (eqRows xs ys)) ∧ ∃ x, w' = ext w x := by
  obtain ⟨a, b, o, cap, vs, rfl, hc1, hc2, hc3, hcell⟩ := h.opn
  obtain ⟨a', b', o', cap', us, rfl, hc1', hc2', hc3', hcell'⟩ := h'.opn
  by_cases hl : xs.length = ys.length
  · have hne : ((xs.length : Int) != ys.length) = false := by simp [hl]
    have HL := Lib.hid hl
    have hle : xs.length ≤ ys.length := by omega
    clear hl
    go_enter Try.func12, Try.ntmps12
    go_wp2_with fail
    go_loopw [5] (fun i wr => ∃ k : Nat, k ≤ xs.length ∧ i = .int .i64 k ∧ allTo (fun k => eqInts (rAt xs k) (rAt ys k)) k = true ∧ ∃ x, wr = ext w x) (fun i _ => xs.length - (intOf i).toNat)
    case atStart => exact ⟨0, Nat.zero_le _, rfl, rfl, (by repeat (first | exact ext_refl _ | (with_reducible assumption) | refine ext_ext' ?_ _ | refine ext_alloc' ?_ _ | refine ext_drew' ?_))⟩
    case round =>
      obtain ⟨k, hk, rfl, hall, x, rfl⟩ := hrel
      have HA := Lib.hid hall
      clear hall
      by_cases hlt : k < xs.length
      · obtain ⟨hb, hi, hck, hri⟩ := hcell k hlt
        obtain ⟨hb', hi', hck', hri'⟩ := hcell' k (by omega)
        obtain ⟨_, _, _, _, e1, _⟩ := hri.opn
        obtain ⟨_, _, _, _, e2, _⟩ := hri'.opn
        rw [e1] at hck hri
        rw [e2] at hck' hri'
        clear hcell hcell' e1 e2
        cases hq : eqInts (rAt xs k) (rAt ys k)
        all_goals
          go_wp2_with fail
          refine wp_region_ext_lit (by kernel_rfl) (by kernel_rfl) ?_
          repeat (go_big_quiet_step ((first | (go_at_call 17; first | exact Calls_ext_of2 (eqIntS_b _ _ _ _ _ hq _ (by first | (with_reducible assumption) | (with_reducible exact IntsAt.mono (by assumption) (bel_of_ext (by repeat (first | exact ext_refl _ | (with_reducible assumption) | refine ext_ext' ?_ _ | refine ext_alloc' ?_ _ | refine ext_drew' ?_)))) | (with_reducible exact RowsAt.mono (by assumption) (bel_of_ext (by repeat (first | exact ext_refl _ | (with_reducible assumption) | refine ext_ext' ?_ _ | refine ext_alloc' ?_ _ | refine ext_drew' ?_))))) (by first | (with_reducible assumption) | (with_reducible exact IntsAt.mono (by assumption) (bel_of_ext (by repeat (first | exact ext_refl _ | (with_reducible assumption) | refine ext_ext' ?_ _ | refine ext_alloc' ?_ _ | refine ext_drew' ?_)))) | (with_reducible exact RowsAt.mono (by assumption) (bel_of_ext (by repeat (first | exact ext_refl _ | (with_reducible assumption) | refine ext_ext' ?_ _ | refine ext_alloc' ?_ _ | refine ext_drew' ?_)))))) | exact Calls_ext_of (eqIntS_b _ _ _ _ _ hq _ (by first | (with_reducible assumption) | (with_reducible exact IntsAt.mono (by assumption) (bel_of_ext (by repeat (first | exact ext_refl _ | (with_reducible assumption) | refine ext_ext' ?_ _ | refine ext_alloc' ?_ _ | refine ext_drew' ?_)))) | (with_reducible exact RowsAt.mono (by assumption) (bel_of_ext (by repeat (first | exact ext_refl _ | (with_reducible assumption) | refine ext_ext' ?_ _ | refine ext_alloc' ?_ _ | refine ext_drew' ?_))))) (by first | (with_reducible assumption) | (with_reducible exact IntsAt.mono (by assumption) (bel_of_ext (by repeat (first | exact ext_refl _ | (with_reducible assumption) | refine ext_ext' ?_ _ | refine ext_alloc' ?_ _ | refine ext_drew' ?_)))) | (with_reducible exact RowsAt.mono (by assumption) (bel_of_ext (by repeat (first | exact ext_refl _ | (with_reducible assumption) | refine ext_ext' ?_ _ | refine ext_alloc' ?_ _ | refine ext_drew' ?_))))))))))
          refine wpQuiet_nil ?_
          intro _ hwq
          obtain ⟨xq, hwq⟩ := hwq
          subst hwq
          go_wp2_with fail
        · go_ret
          exact ⟨ret_bool (by simp only [eqRows, allTo_false (p := fun k => eqInts (rAt xs k) (rAt ys k)) hlt hq, Bool.and_false]), (by repeat (first | exact ext_refl _ | (with_reducible assumption) | refine ext_ext' ?_ _ | refine ext_alloc' ?_ _ | refine ext_drew' ?_))⟩
        · go_roundw
          case rel => exact ⟨k + 1, hlt, int_succ k, allTo_succ HA.out hq, (by repeat (first | exact ext_refl _ | (with_reducible assumption) | refine ext_ext' ?_ _ | refine ext_alloc' ?_ _ | refine ext_drew' ?_))⟩
          case measure => simp [intOf]; omega
      · go_wp2_with fail
        go_ret
        obtain rfl : k = xs.length := by omega
        exact ⟨ret_bool (by rw [eqRows, HA.out, decide_eq_true HL.out]; rfl), (by repeat (first | exact ext_refl _ | (with_reducible assumption) | refine ext_ext' ?_ _ | refine ext_alloc' ?_ _ | refine ext_drew' ?_))⟩
  · have hne : ((xs.length : Int) != ys.length) = true := by simp; omega
    have HL := Lib.hid hl
    clear hl
    go_enter Try.func12, Try.ntmps12
    go_wp2_with fail
    go_ret
    exact ⟨ret_bool (by simp [eqRows, HL.out]), (by repeat (first | exact ext_refl _ | (with_reducible assumption) | refine ext_ext' ?_ _ | refine ext_alloc' ?_ _ | refine ext_drew' ?_))⟩
/-! ### marks -/
def sumLen (xss : List (List Int)) : Nat → Nat := iter (fun i n => n + (rAt xss i).length) 0
theorem sumLen_succ (xss : List (List Int)) (j : Nat) : sumLen xss (j + 1) = sumLen xss j + (rAt xss j).length := rfl
theorem sumLen_mono (xss : List (List Int)) {i j : Nat} (h : i ≤ j) : sumLen xss i ≤ sumLen xss j := by
  induction j with
  | zero => simp at h; subst h; exact Nat.le_refl _
  | succ j ih =>
    by_cases e : i = j + 1
    · subst e; exact Nat.le_refl _
    · have := ih (by omega); rw [sumLen_succ]; omega
/-- the first j rows marked -/
def mixR (k : Int) (xss : List (List Int)) : Nat → List (List Int) := iter (fun j yss => yss.set j (marks (k + (sumLen xss j : Nat)) (rAt xss j).length)) xss
theorem mixR_succ (k : Int) (xss : List (List Int)) (j : Nat) : mixR k xss (j + 1) = (mixR k xss j).set j (marks (k + (sumLen xss j : Nat)) (rAt xss j).length) := rfl
theorem mixR_len (k : Int) (xss : List (List Int)) (j : Nat) : (mixR k xss j).length = xss.length := by
  induction j with
  | zero => rfl
  | succ j ih => rw [mixR_succ, List.length_set, ih]
theorem mixR_hi (k : Int) (xss : List (List Int)) (j i : Nat) (h : j ≤ i) : rAt (mixR k xss j) i = rAt xss i := by
  induction j with
  | zero => rfl
  | succ j ih =>
    rw [mixR_succ, rAt, List.getD, List.getElem?_set_ne (by omega)]
    exact ih (by omega)
theorem mixR_lo (k : Int) (xss : List (List Int)) (j i : Nat) (h : i < j) (hi : i < xss.length) : rAt (mixR k xss j) i = marks (k + (sumLen xss i : Nat)) (rAt xss i).length := by
  induction j with
  | zero => omega
  | succ j ih =>
    rw [mixR_succ, rAt, List.getD]
    by_cases e : i = j
    · subst e
      rw [List.getElem?_set_self (by rw [mixR_len]; exact hi)]; rfl
    · rw [List.getElem?_set_ne (by omega)]
      exact ih (by omega)
theorem rowsI_set (vs : List Value) (xss : List (List Int)) (j : Nat) (ys : List Int) (hl : vs.length = xss.length) (hj : j < xss.length) : (rowsI vs xss).set j (rowI (vAt vs j) ys) = rowsI vs (xss.set j ys) := by
  apply List.ext_getElem?
  intro i
  by_cases e : j = i
  · subst e
    have h1 : j < (rowsI vs xss).length := by simp [rowsI]; omega
    rw [List.getElem?_set_self h1]
    simp [rowsI, List.getElem?_zipWith, vAt, List.getD, hj, show j < vs.length by omega]
  · rw [List.getElem?_set_ne e]
    simp [rowsI, List.getElem?_zipWith, List.getElem?_set_ne e]
theorem perm_set {α : Type} (r' : α) : ∀ (L : List α) (i : Nat), i < L.length → (r' :: L.eraseIdx i).Perm (L.set i r')
  | [], i, h => by simp at h
  | x :: L, 0, h => List.Perm.refl _
  | x :: L, i + 1, h => (List.Perm.swap _ _ _).trans (List.Perm.cons x (perm_set r' L i (by simpa using h)))
def marksR (k : Int) (xss : List (List Int)) : List (List Int) := mixR k xss xss.length
def total (xss : List (List Int)) : Nat := sumLen xss xss.length
theorem rowsI_get {vs : List Value} {xss : List (List Int)} {k : Nat} (h : vs.length = xss.length) (hk : k < xss.length) : (rowsI vs xss)[k]? = some (rowI (vAt vs k) (rAt xss k)) := by
  have h1 : k < vs.length := by omega
  simp [rowsI, List.getElem?_zipWith, vAt, rAt, List.getD, h1, hk]
theorem Held.rowAt {W0 w : World} {L : List Row} {v : Value} {vs : List Value} {xss : List (List Int)} (H : Held W0 w (grpR v vs xss ++ L)) (hl : vs.length = xss.length) {j : Nat} (hj : j < xss.length) :
    ∃ L', Held W0 w (rowI (vAt vs j) (rAt xss j) :: L') ∧ ∀ ys, (rowI (vAt vs j) ys :: L').Perm (grpR v vs (xss.set j ys) ++ L) := by
  have e : (grpR v vs xss ++ L)[j + 1]? = some (rowI (vAt vs j) (rAt xss j)) := by
    have h1 : j < (rowsI vs xss).length := by simp [rowsI]; omega
    simp only [grpR, List.cons_append, List.getElem?_cons_succ]
    rw [List.getElem?_append_left h1, rowsI_get hl hj]
  refine ⟨_, H.pull (j + 1) e, fun ys => ?_⟩
  have hp := perm_set (rowI (vAt vs j) ys) (grpR v vs xss ++ L) (j + 1) (List.getElem?_eq_some_iff.1 e).1
  have h1 : j < (rowsI vs xss).length := by simp [rowsI]; omega
  have e2 : (grpR v vs xss ++ L).set (j + 1) (rowI (vAt vs j) ys) = grpR v vs (xss.set j ys) ++ L := by
    simp only [grpR, List.cons_append, List.set_cons_succ, List.length_set]
    rw [List.set_append_left _ _ h1, rowsI_set vs xss j ys hl hj]
  rw [← e2]; exact hp
theorem markIntSS_held {W0 : World} {L : List Row} (xss : List (List Int)) (vs : List Value) (v : Value) (k : Int) (w : World) (hl : vs.length = xss.length) (H : Held W0 w (grpR v vs xss ++ L)) (h0 : 0 ≤ k) (h1 : k + total xss ≤ 1099511627776) :
    Calls Try.prog 13 #[v, .int .i64 k] w fun e w' => e = .returned (.int .i64 (k + (total xss : Nat))) ∧ Held W0 w' (grpR v vs (marksR k xss) ++ L) := by
  have hout := H.own _ (List.mem_append_left _ List.mem_cons_self)
  rcases hout.2 with ⟨hv, hn⟩ | ⟨g, cap, cur, hv, hB, hg, hnc, hcm, hcs, htk⟩
  · simp only at hv hn
    subst hv
    have hx : xss = [] := List.eq_nil_of_length_eq_zero hn
    subst hx
    clear hout
    go_enter Try.func13, Try.ntmps13
    go_wp2_with fail
    go_loop [1, 5] (fun kk i => i = .int .i64 0 ∧ kk = .int .i64 k) (fun _ _ => 0)
    case atStart => exact ⟨rfl, rfl⟩
    case round =>
      obtain ⟨rfl, rfl⟩ := hrel
      go_wp2_with fail
      go_ret
      exact ⟨ret_int (by simp [total, sumLen, iter]), H⟩
  · simp only at hv hnc
    subst hv
    unfold maxLen at hcm
    clear hcs htk hg hout
    go_enter Try.func13, Try.ntmps13
    go_wp2_with fail
    go_loopw [1, 5] (fun kk i wr => ∃ j : Nat, j ≤ xss.length ∧ i = .int .i64 j ∧ kk = .int .i64 (k + (sumLen xss j : Nat)) ∧ Held W0 wr (grpR (.slice (some ⟨g, 0, none⟩) xss.length cap) vs (mixR k xss j) ++ L)) (fun _ i _ => xss.length - (intOf i).toNat)
    case atStart => exact ⟨0, Nat.zero_le _, rfl, by simp [sumLen, iter], H⟩
    case round =>
      clear H
      obtain ⟨j, hj, rfl, rfl, H⟩ := hrel
      have HS := Lib.hid (sumLen_succ xss j)
      by_cases hlt : j < xss.length
      · have hml := mixR_len k xss j
        have ho := H.own _ (List.mem_append_left _ List.mem_cons_self)
        simp only [hml] at ho
        have hck : wr.cell? ⟨g, j, none⟩ = some (vAt vs j) := by
          rw [ho.cellAt j (by omega), vAt, List.getD, List.getElem?_eq_getElem (by omega)]; rfl
        obtain ⟨L', H2, hperm⟩ := H.rowAt (by rw [hml]; exact hl) (j := j) (by omega)
        rw [mixR_hi k xss j j (Nat.le_refl _)] at H2
        have hm1 := sumLen_mono xss (show j + 1 ≤ xss.length from hlt)
        have hm2 : sumLen xss j + (rAt xss j).length ≤ total xss := by rw [← HS.out]; exact hm1
        obtain ⟨a1, c1, e1⟩ := own_slice (H2.own _ List.mem_cons_self)
        simp only at e1
        have HP := Lib.hid (hperm (marks (k + (sumLen xss j : Nat)) (rAt xss j).length))
        rw [e1] at hck H2
        have HE := Lib.hid e1
        have HO := Lib.hid H
        clear hm1 ho hperm hml e1 H
        go_wp2_with (first | (go_at_call 18; refine (markIntS_held _ _ _ _ H2 (by omega) (by omega) (by omega)).mono ?_; rintro e w' ⟨rfl, H3⟩))
        go_roundw
        case rel =>
          refine ⟨j + 1, hlt, int_succ j, by rw [HS.out]; congr 1; omega, ?_⟩
          rw [mixR_succ]
          rw [← HE.out] at H3
          exact H3.front HP.out
        case measure => simp [intOf]; omega
      · have HJ := Lib.hid (show j = xss.length by omega)
        have HO := Lib.hid H
        clear H
        go_wp2_with fail
        go_ret
        have H := HO.out
        rw [HJ.out] at H
        exact ⟨ret_int (by rw [HJ.out]; rfl), H⟩
theorem markIntSS_heldG {W0 : World} {G : List (List Row)} (xss : List (List Int)) (vs : List Value) (v : Value) (k : Int) (w : World) (H : HeldG W0 w (grpR v vs xss :: G)) (hl : vs.length = xss.length) (h0 : 0 ≤ k) (h1 : k + total xss ≤ 1099511627776) :
    Calls Try.prog 13 #[v, .int .i64 k] w fun e w' => e = .returned (.int .i64 (k + (total xss : Nat))) ∧ vs.length = (marksR k xss).length ∧ HeldG W0 w' (grpR v vs (marksR k xss) :: G) :=
  (markIntSS_held (L := G.flatten) xss vs v k w hl H h0 h1).mono fun _ _ ⟨h1, h2⟩ => ⟨h1, by rw [hl]; exact (mixR_len _ _ _).symm, h2⟩
theorem heldIntS_eq (ys : List Int) (n : Nat) (v : Value) (k : Int) (w : World) (he : ys = marks k n) (h : IntsAt w v ys) (h0 : 0 ≤ k) (h1 : k ≤ 1099511627776) (hs : n ≤ 1099511627776) :
    Calls Try.prog 19 #[v, .int .i64 k] w fun e w' => e = .returned (.int .i64 (k + n)) ∧ ∃ x, w' = ext w x := by subst he; exact heldIntS_any n v k w h h0 h1 hs
theorem heldIntSS_any (xss : List (List Int)) (v : Value) (k : Int) (w : World) (h : RowsAt w v (marksR k xss)) (h0 : 0 ≤ k) (h1 : k + total xss ≤ 1099511627776) :
    Calls Try.prog 14 #[v, .int .i64 k] w fun e w' => e = .returned (.int .i64 (k + (total xss : Nat))) ∧ ∃ x, w' = ext w x := by
  obtain ⟨a, b, o, cap, us, rfl, hc1, hc2, hc3, hcell⟩ := h.opn
  have hml : (marksR k xss).length = xss.length := mixR_len _ _ _
  rw [hml] at hc1 hc2 hcell h ⊢
  have HC := Lib.hid hcell
  clear hcell hml
  go_enter Try.func14, Try.ntmps14
  go_wp2_with fail
  go_loopw [1, 5] (fun kk i wr => ∃ j : Nat, j ≤ xss.length ∧ i = .int .i64 j ∧ kk = .int .i64 (k + (sumLen xss j : Nat)) ∧ ∃ x, wr = ext w x) (fun _ i _ => xss.length - (intOf i).toNat)
  case atStart => exact ⟨0, Nat.zero_le _, rfl, by simp [sumLen, iter], (by repeat (first | exact ext_refl _ | (with_reducible assumption) | refine ext_ext' ?_ _ | refine ext_alloc' ?_ _ | refine ext_drew' ?_))⟩
  case round =>
    obtain ⟨j, hj, rfl, rfl, x, rfl⟩ := hrel
    by_cases hlt : j < xss.length
    · obtain ⟨hb, hi, hck, hri⟩ := HC.out j hlt
      have HE := Lib.hid (show rAt (marksR k xss) j = marks (k + (sumLen xss j : Nat)) (rAt xss j).length from mixR_lo k xss xss.length j hlt hlt)
      have hm1 := sumLen_mono xss (show j + 1 ≤ xss.length from hlt)
      have HS := Lib.hid (sumLen_succ xss j)
      have hm2 : sumLen xss j + (rAt xss j).length ≤ total xss := by rw [← HS.out]; exact hm1
      clear hm1
      obtain ⟨_, _, _, _, e1, _⟩ := hri.opn
      rw [e1] at hck hri
      clear e1
      go_wp2_with (first | (go_at_call 19; refine (heldIntS_eq _ (rAt xss j).length _ _ _ HE.out (by first | (with_reducible assumption) | (with_reducible exact IntsAt.mono (by assumption) (bel_of_ext (by repeat (first | exact ext_refl _ | (with_reducible assumption) | refine ext_ext' ?_ _ | refine ext_alloc' ?_ _ | refine ext_drew' ?_)))) | (with_reducible exact RowsAt.mono (by assumption) (bel_of_ext (by repeat (first | exact ext_refl _ | (with_reducible assumption) | refine ext_ext' ?_ _ | refine ext_alloc' ?_ _ | refine ext_drew' ?_))))) (by omega) (by omega) (by omega)).mono ?_; rintro e w' ⟨rfl, xe, rfl⟩))
      go_roundw
      case rel => exact ⟨j + 1, hlt, int_succ j, by rw [HS.out]; congr 1; omega, (by repeat (first | exact ext_refl _ | (with_reducible assumption) | refine ext_ext' ?_ _ | refine ext_alloc' ?_ _ | refine ext_drew' ?_))⟩
      case measure => simp [intOf]; omega
    · have HJ := Lib.hid (show j = xss.length by omega)
      go_wp2_with fail
      go_ret
      exact ⟨ret_int (by rw [HJ.out]; rfl), (by repeat (first | exact ext_refl _ | (with_reducible assumption) | refine ext_ext' ?_ _ | refine ext_alloc' ?_ _ | refine ext_drew' ?_))⟩
end Go.Proofs.Ytklikfgikeicoaa
