/- Walks of BoundsHold of the program. -/
import Derived.Test.YtdnhinkjmjpnnaaF5

import Derived.Test.YtdnhinkjmjpnnaaF3

import Derived.Test.YtdnhinkjmjpnnaaFL

import Derived.Deep.RegionHeld3

namespace Go.Proofs.Ytdnhinkjmjpnnaa

open Go.RowKit

theorem getD_at {LL : List (List Int)} {v : Nat} (hv : v < LL.length) : LL.getD v [] = LL[v] := by simp [hv]
def bdHolds (LL : List (List Int)) : Bd → Bool
  | .loan v k => decide ((k : Int) ∈ LL.getD v [])
  | .frm v u => (LL.getD u []).all (fun n => decide (n ∈ LL.getD v []))
noncomputable def boundsHold (p : Pr) (LL : List (List Int)) : Bool := validP p && (decide (LL.length = p.types.length) && (bds p).all (bdHolds LL))
theorem hold_false {p : Pr} {LL : List (List Int)} {k : Nat} (hk : k < (bds p).length) (h : bdHolds LL (bds p)[k] = false) : boundsHold p LL = false := by
  unfold boundsHold
  have : (bds p).all (bdHolds LL) = false := by
    rw [List.all_eq_false]; exact ⟨_, List.getElem_mem hk, by rw [h]; simp⟩
  rw [this]; simp
theorem hold_true {p : Pr} {LL : List (List Int)} (hv : validP p = true) (hl : LL.length = p.types.length) (h : ∀ j (hj : j < (bds p).length), bdHolds LL (bds p)[j] = true) : boundsHold p LL = true := by
  unfold boundsHold
  have : (bds p).all (bdHolds LL) = true := by
    rw [List.all_eq_true]; intro x hx; obtain ⟨j, hj, rfl⟩ := List.getElem_of_mem hx; exact h j hj
  rw [this, hv, decide_eq_true hl]; rfl
theorem hold_out {p : Pr} {LL : List (List Int)} (h : validP p = false ∨ LL.length ≠ p.types.length) : boundsHold p LL = false := by
  unfold boundsHold
  rcases h with h | h
  · rw [h]; rfl
  · rw [decide_eq_false h]; simp
theorem holds_loan {LL : List (List Int)} {v k : Nat} (hv : v < LL.length) : bdHolds LL (.loan v k) = decide ((k : Int) ∈ LL[v]) := by
  simp [bdHolds, hv]
theorem holds_frm {LL : List (List Int)} {v u : Nat} (hv : v < LL.length) (hu : u < LL.length) (h : ∀ t (ht : t < LL[u].length), LL[u][t] ∈ LL[v]) : bdHolds LL (.frm v u) = true := by
  simp only [bdHolds, List.all_eq_true, decide_eq_true_eq]
  intro n hn
  rw [getD_at hu] at hn
  obtain ⟨t, ht, rfl⟩ := List.getElem_of_mem hn
  rw [getD_at hv]
  exact h t ht
theorem fails_frm {LL : List (List Int)} {v u : Nat} (hv : v < LL.length) (hu : u < LL.length) {t : Nat} (ht : t < LL[u].length) (h : LL[u][t] ∉ LL[v]) : bdHolds LL (.frm v u) = false := by
  simp only [bdHolds]
  rw [List.all_eq_false]
  exact ⟨LL[u][t], by rw [getD_at hu]; exact List.getElem_mem ht, by rw [getD_at hv]; simpa using h⟩
theorem holds_frm' {LL : List (List Int)} {v u : Nat} {yv yu : List Int} (hv : v < LL.length) (hu : u < LL.length) (ev : LL[v] = yv) (eu : LL[u] = yu) (h : ∀ t (ht : t < yu.length), yu[t] ∈ yv) : bdHolds LL (.frm v u) = true := by
  subst ev; subst eu; exact holds_frm hv hu h
theorem fails_frm' {LL : List (List Int)} {v u : Nat} {yv yu : List Int} (hv : v < LL.length) (hu : u < LL.length) (ev : LL[v] = yv) (eu : LL[u] = yu) {t : Nat} (ht : t < yu.length) (h : yu[t] ∉ yv) : bdHolds LL (.frm v u) = false := by
  subst ev; subst eu; exact fails_frm hv hu ht h
set_option maxRecDepth 100000 in
set_option maxHeartbeats 4000000 in
theorem implBoundsHold_any (p : Pr) (LL : List (List Int)) (at' ab aL : Option Addr) (ct cb cL : Nat) (w : World) (hT : InAt w Any p.types at') (hB : SlAt w Any p.body ab) (hs : p.types.length ≤ 1048576) (hc : p.body.length ≤ 1048576) (hLL : ListsAt w LL aL) (hll : ∀ k (h : k < LL.length), LL[k].length ≤ 1048576) :
    Calls Try.prog 41 #[.agg #[.slice at' p.types.length ct, .slice ab p.body.length cb], .slice aL LL.length cL] w fun e w' => e = .returned (.bool (boundsHold p LL)) ∧ Gr w w' none := by
  have hg1 : ∀ o, Gr w (w.alloc o) none := fun o => (Gr.refl _ _).alloc _
  have HLL := Lib.hid hLL
  clear hLL
  go_enter Try.func41, Try.ntmps41
  go_wp2_with fail
  refine (graphOf_any p [] at' ab none ct cb 0 _ (hT.gr0 (hg1 _)) (hB.gr0 (hg1 _)) (by simp [InAt]) hs hc (by simp)).mono ?_
  rintro e w1 ⟨hg, hif⟩
  have hG1 : Gr w w1 none := (hg1 _).trans0 hg
  clear hg
  rw [graphOk_none] at hif
  cases hv : validP p with
  | false =>
    rw [hv, if_neg (by simp)] at hif
    subst hif
    have HO := Lib.hid (hold_out (p := p) (LL := LL) (.inl hv))
    clear hv
    go_wp2_with fail
    go_ret
    rw [HO.out]
    exact ⟨rfl, hG1⟩
  | true =>
    rw [hv, if_pos rfl] at hif
    obtain ⟨gb, rfl, hgb, hGA⟩ := hif
    have h6 := valid_types hv
    have HV := Lib.hid hv
    have HOK := Lib.hid (bds_ok p)
    have HBR := Lib.hid (bds_row p)
    have HBO := Lib.hid (show boundsOf p = bounds p by unfold boundsOf; rw [if_pos hv])
    have HGA := Lib.hid hGA
    clear hv
    obtain ⟨PL, at2, ct2, a4, n4, al, cl, hM, d0, d1, d2, hT2, hr2, hP⟩ := hGA
    clear hM d1 d2 hT2 hr2 hP
    by_cases hne : LL.length = p.types.length
    · have hq : ((LL.length : Int) != (p.types.length : Int)) = false := by simp [hne]
      have HNE := Lib.hid hne
      clear hne
      go_wp2_with fail
      refine (bounds_any p gb _ HGA.out HV.out).mono ?_
      rw [← HBO.out]
      rintro e w3 ⟨a3, c3, rfl, hI, -, -, hg3⟩
      have hlen : (boundsOf p).length ≤ 1048576 := boundsOf_len p
      obtain ⟨L, hL⟩ : ∃ L, boundsOf p = L := ⟨_, rfl⟩
      have HBR2 := Lib.hid (show L = (bds p).map Bd.row from hL.symm.trans HBR.out)
      rw [hL] at hI hlen ⊢
      have HI := Lib.hid hI
      have HG3 := Lib.hid (hG1.trans0 hg3)
      clear hL hI hg3 hq d0 hG1
      go_wp2_with fail
      go_loopw [32] (fun i wr => ∃ k : Nat, k ≤ L.length ∧ i = .int .i64 k ∧ (∀ j (h : j < (bds p).length), j < k → bdHolds LL (bds p)[j] = true) ∧ Gr w3 wr none) (fun i _ => L.length - (intOf i).toNat)
      case atStart => exact ⟨0, Nat.zero_le _, rfl, fun j _ h => absurd h (by omega), Gr.refl _ _⟩
      case round =>
        obtain ⟨k, hk, rfl, hJ, hg⟩ := hrel
        have HJ := Lib.hid hJ
        clear hJ
        by_cases hlt : k < L.length
        · have hkb : k < (bds p).length := by have := congrArg List.length HBR2.out; rw [List.length_map] at this; omega
          have hrow : L[k] = (bds p)[k].row := by simp [HBR2.out]
          have hok := HOK.out _ (List.getElem_mem hkb)
          obtain ⟨b1, o1, rfl, -, h1⟩ := (HI.out.gr0 hg) k hlt
          rw [hrow] at h1
          obtain ⟨b, hb⟩ : ∃ b, (bds p)[k] = b := ⟨_, rfl⟩
          rw [hb] at hok h1
          have HYES := Lib.hid (fun (h : bdHolds LL b = true) => show ∀ j (hj : j < (bds p).length), j < k + 1 → bdHolds LL (bds p)[j] = true from fun j hj hjk => by
            by_cases e : j = k
            · subst e; rw [hb]; exact h
            · exact HJ.out j hj (by omega))
          have HNO := Lib.hid (fun (h : bdHolds LL b = false) => hold_false (p := p) (LL := LL) hkb (by rw [hb]; exact h))
          have HG := Lib.hid (HG3.out.trans0 hg)
          have HGL := Lib.hid hg
          clear hrow hb hkb hg
          cases b with
          | loan v kk =>
            have i0 := h1 0 _ rfl
            have i1 := h1 1 _ rfl
            have i2 := h1 2 _ rfl
            simp only [Nat.add_zero] at i0
            have hv : v < LL.length := by have := hok.1; have := HNE.out; omega
            go_upto_region 8 with fail
            obtain ⟨wB, hwB⟩ : ∃ wB, wB = wr.alloc (.cells #[.int .i64 v, .int .i64 kk, .int .i64 (-1)] 104) := ⟨_, rfl⟩
            have hGB : Gr wr wB none := by rw [hwB]; exact (Gr.refl _ _).alloc _
            have hE := heap1_0 wr (.cells #[.int .i64 v, .int .i64 kk, .int .i64 (-1)] 104)
            rw [← hwB] at hE ⊢
            have e0 : wB.cell? ⟨wr.heap.size, 0, none⟩ = some (.int .i64 v) := cell_of_row _ _ _ _ _ _ hE
            have e1 : wB.cell? ⟨wr.heap.size, 1, none⟩ = some (.int .i64 kk) := cell_of_row _ _ _ _ _ _ hE
            have e2 : wB.cell? ⟨wr.heap.size, 2, none⟩ = some (.int .i64 (-1)) := cell_of_row _ _ _ _ _ _ hE
            obtain ⟨bL, oL, xv, cv, rfl, lv, hIv⟩ := (HLL.out.gr0 (HG.out.trans0 hGB)) v hv
            have hm := hll v hv
            have HRD := Lib.hid (holds_loan (LL := LL) (v := v) (k := kk) hv)
            obtain ⟨y, hy⟩ : ∃ y, LL[v] = y := ⟨_, rfl⟩
            rw [hy] at lv hIv hm HRD
            have HGB := Lib.hid hGB
            clear hy h1 hok hwB hE hGB i0 i1 i2
            obtain ⟨bb, hbb⟩ : ∃ bb, decide ((kk : Int) ∈ y) = bb := ⟨_, rfl⟩
            have HBB := Lib.hid hbb
            clear hbb
            go_region_with (go_at_call 76; refine (hasI_any y kk xv cv _ (by exact hIv.gr0 (Gr.refl _ _).drew) hm).mono ?_; rw [HBB.out]; rintro e w' ⟨rfl, rfl⟩)
            all_goals
              cases bb with
              | true =>
                go_wp2_with fail
                go_roundw
                case rel => exact ⟨k + 1, by omega, by go_num, HYES.out (HRD.out.trans HBB.out), (HGL.out.trans0 HGB.out).drew⟩
                case measure => simp [intOf]; omega
              | false =>
                go_wp2_with fail
                go_ret
                rw [HNO.out (HRD.out.trans HBB.out)]
                exact ⟨rfl, (HG.out.trans0 HGB.out).drew⟩
          | frm v u =>
            have i0 := h1 0 _ rfl
            have i1 := h1 1 _ rfl
            have i2 := h1 2 _ rfl
            simp only [Nat.add_zero] at i0
            have hv : v < LL.length := by have := hok.1; have := HNE.out; omega
            have hu : u < LL.length := by have := hok.2; have := HNE.out; omega
            go_upto_region 10 with fail
            obtain ⟨wB, hwB⟩ : ∃ wB, wB = wr.alloc (.cells #[.int .i64 v, .int .i64 (-1), .int .i64 u] 104) := ⟨_, rfl⟩
            have hGB : Gr wr wB none := by rw [hwB]; exact (Gr.refl _ _).alloc _
            have hE := heap1_0 wr (.cells #[.int .i64 v, .int .i64 (-1), .int .i64 u] 104)
            rw [← hwB] at hE ⊢
            have e0 : wB.cell? ⟨wr.heap.size, 0, none⟩ = some (.int .i64 v) := cell_of_row _ _ _ _ _ _ hE
            have e2 : wB.cell? ⟨wr.heap.size, 2, none⟩ = some (.int .i64 u) := cell_of_row _ _ _ _ _ _ hE
            have hLB := HLL.out.gr0 (HG.out.trans0 hGB)
            obtain ⟨bL, oL, xv, cv, rfl, lv, hIv⟩ := hLB v hv
            obtain ⟨bL', oL', xu, cu, eL, lu, hIu⟩ := hLB u hu
            cases eL
            have hmv := hll v hv
            have hmu := hll u hu
            obtain ⟨yv, hyv⟩ : ∃ y, LL[v] = y := ⟨_, rfl⟩
            obtain ⟨yu, hyu⟩ : ∃ y, LL[u] = y := ⟨_, rfl⟩
            have HRD := Lib.hid (holds_frm' hv hu hyv hyu)
            have HRN := Lib.hid (fun t ht h => fails_frm' hv hu hyv hyu (t := t) ht h)
            rw [hyv] at lv hIv hmv
            rw [hyu] at lu hIu hmu
            have HGB := Lib.hid hGB
            have HIu := Lib.hid hIu
            clear hyv hyu h1 hok hwB hE hGB i0 i1 i2 hLB hIu
            go_wp2_with fail
            go_loop [54] (fun i => ∃ j : Nat, j ≤ yu.length ∧ i = .int .i64 j ∧ ∀ t (h : t < yu.length), t < j → yu[t] ∈ yv) (fun i => yu.length - (intOf i).toNat)
            case atStart => exact ⟨0, Nat.zero_le _, rfl, fun j _ h => absurd h (by omega)⟩
            case round =>
              obtain ⟨j, hj, rfl, hA⟩ := hrel
              have HA := Lib.hid hA
              clear hA
              by_cases hlt2 : j < yu.length
              · obtain ⟨b2, o2, rfl, _, hc2⟩ := HIu.out.at hlt2
                have HX := Lib.hid (fun (z : Int) (e : yu[j] = z) (hm : z ∈ yv) => show ∀ t (h : t < yu.length), t < j + 1 → yu[t] ∈ yv from fun t h ht => by
                  by_cases e' : t = j
                  · subst e'; rw [e]; exact hm
                  · exact HA.out t h (by omega))
                have HZ := Lib.hid (fun (z : Int) (e : yu[j] = z) (hm : z ∉ yv) => HNO.out (HRN.out j hlt2 (by rw [e]; exact hm)))
                obtain ⟨z, hz⟩ : ∃ z, yu[j] = z := ⟨_, rfl⟩
                rw [hz] at hc2
                have HEZ := Lib.hid hz
                clear hz
                by_cases hm : z ∈ yv
                · have hd := decide_eq_true hm
                  have HM := Lib.hid hm
                  clear hm
                  go_wp2_with fail
                  refine (hasI_any yv z xv cv _ hIv hmv).mono ?_
                  rw [hd]
                  rintro e w' ⟨rfl, rfl⟩
                  go_wp2_with fail
                  go_round
                  case rel => exact ⟨j + 1, by omega, by go_num, HX.out z HEZ.out HM.out⟩
                  case measure => simp [intOf]; omega
                · have hd := decide_eq_false hm
                  have HM := Lib.hid hm
                  clear hm
                  go_wp2_with fail
                  refine (hasI_any yv z xv cv _ hIv hmv).mono ?_
                  rw [hd]
                  rintro e w' ⟨rfl, rfl⟩
                  go_wp2_with fail
                  go_ret
                  rw [HZ.out z HEZ.out HM.out]
                  exact ⟨rfl, HG.out.trans0 HGB.out⟩
              · go_wp2_with fail
                go_roundw
                case rel => exact ⟨k + 1, by omega, by go_num, HYES.out (HRD.out fun t h => HA.out t h (by omega)), HGL.out.trans0 HGB.out⟩
                case measure => simp [intOf]; omega
        · have HT := Lib.hid (hold_true (p := p) (LL := LL) HV.out HNE.out (fun j hj => HJ.out j hj (by have := congrArg List.length HBR2.out; rw [List.length_map] at this; omega)))
          go_wp2_with fail
          go_ret
          rw [HT.out]
          exact ⟨rfl, HG3.out.trans0 hg⟩
    · have hq : ((LL.length : Int) != (p.types.length : Int)) = true := by simp; omega
      have HO := Lib.hid (hold_out (p := p) (LL := LL) (.inr hne))
      clear hne
      go_wp2_with fail
      go_ret
      rw [HO.out]
      exact ⟨rfl, hG1⟩
end Go.Proofs.Ytdnhinkjmjpnnaa
