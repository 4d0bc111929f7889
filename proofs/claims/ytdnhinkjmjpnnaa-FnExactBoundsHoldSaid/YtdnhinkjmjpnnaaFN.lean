/- Walks of BoundsHold of the reference. -/
import Derived.Test.YtdnhinkjmjpnnaaDG

import Derived.Test.YtdnhinkjmjpnnaaF4

import Derived.Test.YtdnhinkjmjpnnaaFM

namespace Go.Proofs.Ytdnhinkjmjpnnaa

open Go.RowKit

set_option maxRecDepth 100000 in
set_option maxHeartbeats 4000000 in
theorem specBoundsHold_any (p : Pr) (LL : List (List Int)) (at' ab aL : Option Addr) (ct cb cL : Nat) (w : World) (hT : InAt w Any p.types at') (hB : SlAt w Any p.body ab) (hs : p.types.length ≤ 1048576) (hc : St.count p.body ≤ 1048576) (hLL : ListsAt w LL aL) (hll : ∀ k (h : k < LL.length), LL[k].length ≤ 1048576) :
    Calls Try.prog 39 #[.agg #[.slice at' p.types.length ct, .slice ab p.body.length cb], .slice aL LL.length cL] w fun e w' => e = .returned (.bool (boundsHold p LL)) ∧ Gr w w' none := by
  have hlc := count_length p.body
  have hg1 : ∀ o, Gr w (w.alloc o) none := fun o => (Gr.refl _ _).alloc _
  have HLL := Lib.hid hLL
  clear hLL
  go_enter Try.func39, Try.ntmps39
  go_wp2_with fail
  refine (validS_any p at' ab ct cb _ (hT.gr0 (hg1 _)) (hB.gr0 (hg1 _)) hs hc (by omega)).mono ?_
  rw [valid_same]
  rintro e w1 ⟨rfl, hg⟩
  have hG1 : Gr w w1 none := (hg1 _).trans0 hg
  have q0 : w1.cell? ⟨w.heap.size, 0, none⟩ = some (.slice at' p.types.length ct) := hg.cell (p := ⟨w.heap.size, 0, none⟩) (cell?_new2 _ _).1 (by simp)
  have q1 : w1.cell? ⟨w.heap.size, 1, none⟩ = some (.slice ab p.body.length cb) := hg.cell (p := ⟨w.heap.size, 1, none⟩) (cell?_new2 _ _).2 (by simp)
  clear hg
  cases hv : validP p with
  | false =>
    have HO := Lib.hid (hold_out (p := p) (LL := LL) (.inl hv))
    clear hv
    go_wp2_with fail
    go_ret
    rw [HO.out]
    exact ⟨rfl, hG1⟩
  | true =>
    have h6 := valid_types hv
    have HV := Lib.hid hv
    have HOK := Lib.hid (bds_ok p)
    have HBR := Lib.hid (bds_row p)
    have HBO := Lib.hid (show boundsOf p = bounds p by unfold boundsOf; rw [if_pos hv])
    clear hv
    by_cases hne : LL.length = p.types.length
    · have hq : ((LL.length : Int) != (p.types.length : Int)) = false := by simp [hne]
      have HNE := Lib.hid hne
      clear hne
      go_wp2_with fail
      refine (l9Bounds_any p at' ab ct cb _ (hT.gr0 hG1) (hB.gr0 hG1) HV.out (by omega)).mono ?_
      rw [← HBO.out]
      rintro e w3 ⟨a3, c3, rfl, hI, -, -, hg3⟩
      have hlen : (boundsOf p).length ≤ 1048576 := boundsOf_len p
      obtain ⟨L, hL⟩ : ∃ L, boundsOf p = L := ⟨_, rfl⟩
      have HBR2 := Lib.hid (show L = (bds p).map Bd.row from hL.symm.trans HBR.out)
      rw [hL] at hI hlen ⊢
      have HI := Lib.hid hI
      have HG3 := Lib.hid (hG1.trans0 hg3)
      clear hL hI hg3 hq q0 q1 hG1
      go_wp2_with fail
      go_loopw [6] (fun i wr => ∃ k : Nat, k ≤ L.length ∧ i = .int .i64 k ∧ (∀ j (h : j < (bds p).length), j < k → bdHolds LL (bds p)[j] = true) ∧ Gr w3 wr none) (fun i _ => L.length - (intOf i).toNat)
      case atStart => exact ⟨0, Nat.zero_le _, rfl, fun j _ h => absurd h (by omega), Gr.refl _ _⟩
      case round =>
        obtain ⟨k, hk, rfl, hJ, hg⟩ := hrel
        have HJ := Lib.hid hJ
        clear hJ
        by_cases hlt : k < L.length
        · have hkb : k < (bds p).length := by have := congrArg List.length HBR2.out; rw [List.length_map] at this; omega
          have hrow : L[k] = (bds p)[k].row := by simp [HBR2.out]
          have hok := HOK.out _ (List.getElem_mem hkb)
          obtain ⟨b1, o1, rfl, -, h1⟩ := (HI.out.gr0 hg) k hlt
          rw [hrow] at h1
          obtain ⟨b, hb⟩ : ∃ b, (bds p)[k] = b := ⟨_, rfl⟩
          rw [hb] at hok h1
          have HYES := Lib.hid (fun (h : bdHolds LL b = true) => show ∀ j (hj : j < (bds p).length), j < k + 1 → bdHolds LL (bds p)[j] = true from fun j hj hjk => by
            by_cases e : j = k
            · subst e; rw [hb]; exact h
            · exact HJ.out j hj (by omega))
          have HNO := Lib.hid (fun (h : bdHolds LL b = false) => hold_false (p := p) (LL := LL) hkb (by rw [hb]; exact h))
          have HG := Lib.hid (HG3.out.trans0 hg)
          have HGL := Lib.hid hg
          clear hrow hb hkb hg
          cases b with
          | loan v kk =>
            have i0 := h1 0 _ rfl
            have i1 := h1 1 _ rfl
            have i2 := h1 2 _ rfl
            simp only [Nat.add_zero] at i0
            have hv : v < LL.length := by have := hok.1; have := HNE.out; omega
            go_upto_region 8 with fail
            obtain ⟨wB, hwB⟩ : ∃ wB, wB = wr.alloc (.cells #[.int .i64 v, .int .i64 kk, .int .i64 (-1)] 104) := ⟨_, rfl⟩
            have hGB : Gr wr wB none := by rw [hwB]; exact (Gr.refl _ _).alloc _
            have hE := heap1_0 wr (.cells #[.int .i64 v, .int .i64 kk, .int .i64 (-1)] 104)
            rw [← hwB] at hE ⊢
            have e0 : wB.cell? ⟨wr.heap.size, 0, none⟩ = some (.int .i64 v) := cell_of_row _ _ _ _ _ _ hE
            have e1 : wB.cell? ⟨wr.heap.size, 1, none⟩ = some (.int .i64 kk) := cell_of_row _ _ _ _ _ _ hE
            have e2 : wB.cell? ⟨wr.heap.size, 2, none⟩ = some (.int .i64 (-1)) := cell_of_row _ _ _ _ _ _ hE
            have e2' : wB.drew.cell? ⟨wr.heap.size, 2, none⟩ = some (.int .i64 (-1)) := (Gr.refl wB none).drew.cell e2 (by simp)
            obtain ⟨bL, oL, xv, cv, rfl, lv, hIv⟩ := (HLL.out.gr0 (HG.out.trans0 hGB)) v hv
            have hm := hll v hv
            have HRD := Lib.hid (holds_loan (LL := LL) (v := v) (k := kk) hv)
            obtain ⟨y, hy⟩ : ∃ y, LL[v] = y := ⟨_, rfl⟩
            rw [hy] at lv hIv hm HRD
            have HGB := Lib.hid hGB
            clear hy h1 hok hwB hE hGB i0 i1 i2
            obtain ⟨bb, hbb⟩ : ∃ bb, decide ((kk : Int) ∈ y) = bb := ⟨_, rfl⟩
            have HBB := Lib.hid hbb
            clear hbb e2'
            go_quiet ((go_at_call 75; refine Calls.quiet_of_same ((l2Has_any y kk xv cv _ ?_ hm).mono fun _ _ q => ⟨q.1.trans (by rw [HBB.out]), q.2.symm⟩); exact hIv.gr0 ((Gr.refl _ _).drewN _)))
            all_goals
              cases bb with
              | true =>
                go_wp2_with fail
                go_loop [8] (fun i => i = .int .i64 0) (fun _ => 0)
                case atStart => rfl
                case round =>
                  subst hrel
                  go_wp2_with fail
                  go_roundw
                  case rel => exact ⟨k + 1, by omega, by go_num, HYES.out (HRD.out.trans HBB.out), (HGL.out.trans0 HGB.out).drewN _⟩
                  case measure => simp [intOf]; omega
              | false =>
                go_wp2_with fail
                go_ret
                rw [HNO.out (HRD.out.trans HBB.out)]
                exact ⟨rfl, (HG.out.trans0 HGB.out).drewN _⟩
          | frm v u =>
            have i0 := h1 0 _ rfl
            have i1 := h1 1 _ rfl
            have i2 := h1 2 _ rfl
            simp only [Nat.add_zero] at i0
            have hv : v < LL.length := by have := hok.1; have := HNE.out; omega
            have hu : u < LL.length := by have := hok.2; have := HNE.out; omega
            go_upto_region 8 with fail
            obtain ⟨wB, hwB⟩ : ∃ wB, wB = wr.alloc (.cells #[.int .i64 v, .int .i64 (-1), .int .i64 u] 104) := ⟨_, rfl⟩
            have hGB : Gr wr wB none := by rw [hwB]; exact (Gr.refl _ _).alloc _
            have hE := heap1_0 wr (.cells #[.int .i64 v, .int .i64 (-1), .int .i64 u] 104)
            rw [← hwB] at hE ⊢
            have e0 : wB.cell? ⟨wr.heap.size, 0, none⟩ = some (.int .i64 v) := cell_of_row _ _ _ _ _ _ hE
            have e1 : wB.cell? ⟨wr.heap.size, 1, none⟩ = some (.int .i64 (-1)) := cell_of_row _ _ _ _ _ _ hE
            have e2 : wB.cell? ⟨wr.heap.size, 2, none⟩ = some (.int .i64 u) := cell_of_row _ _ _ _ _ _ hE
            have HE0 := Lib.hid e0
            have HE2 := Lib.hid e2
            have hLB := HLL.out.gr0 (HG.out.trans0 hGB)
            obtain ⟨bL, oL, xv, cv, rfl, lv, hIv⟩ := hLB v hv
            obtain ⟨bL', oL', xu, cu, eL, lu, hIu⟩ := hLB u hu
            cases eL
            have hmv := hll v hv
            have hmu := hll u hu
            obtain ⟨yv, hyv⟩ : ∃ y, LL[v] = y := ⟨_, rfl⟩
            obtain ⟨yu, hyu⟩ : ∃ y, LL[u] = y := ⟨_, rfl⟩
            have HRD := Lib.hid (holds_frm' hv hu hyv hyu)
            have HRN := Lib.hid (fun t ht h => fails_frm' hv hu hyv hyu (t := t) ht h)
            rw [hyv] at lv hIv hmv
            rw [hyu] at lu hIu hmu
            have HGB := Lib.hid hGB
            have HIu := Lib.hid hIu
            have HIv := Lib.hid hIv
            have HLv := Lib.hid lv
            have HLu := Lib.hid lu
            clear hyv hyu h1 hok hwB hE hGB i0 i1 i2 hLB hIu hIv
            go_quiet (fail)
            go_wp2_with fail
            go_loopw [8] (fun i wq => ∃ j : Nat, j ≤ yu.length ∧ i = .int .i64 j ∧ (∀ t (h : t < yu.length), t < j → yu[t] ∈ yv) ∧ Gr wB wq none) (fun i _ => yu.length - (intOf i).toNat)
            case atStart => exact ⟨0, Nat.zero_le _, rfl, fun j _ h => absurd h (by omega), (Gr.refl _ _).drewN _⟩
            case round =>
              rename World => wq
              obtain ⟨j, hj, rfl, hA, hgq⟩ := hrel
              have HA := Lib.hid hA
              have HGQ := Lib.hid hgq
              replace e0 := hgq.cell HE0.out (by simp)
              replace e2 := hgq.cell HE2.out (by simp)
              replace lv := hgq.cell HLv.out (by simp)
              replace lu := hgq.cell HLu.out (by simp)
              clear hA e1
              by_cases hlt2 : j < yu.length
              · obtain ⟨b2, o2, rfl, _, hc2⟩ := (HIu.out.gr0 hgq).at hlt2
                have hIv := HIv.out.gr0 hgq
                have HX := Lib.hid (fun (z : Int) (e : yu[j] = z) (hm : z ∈ yv) => show ∀ t (h : t < yu.length), t < j + 1 → yu[t] ∈ yv from fun t h ht => by
                  by_cases e' : t = j
                  · subst e'; rw [e]; exact hm
                  · exact HA.out t h (by omega))
                have HZ := Lib.hid (fun (z : Int) (e : yu[j] = z) (hm : z ∉ yv) => HNO.out (HRN.out j hlt2 (by rw [e]; exact hm)))
                obtain ⟨z, hz⟩ : ∃ z, yu[j] = z := ⟨_, rfl⟩
                rw [hz] at hc2
                have HEZ := Lib.hid hz
                clear hz hgq
                by_cases hm : z ∈ yv
                · have HD := Lib.hid (decide_eq_true hm)
                  have HM := Lib.hid hm
                  clear hm
                  go_wp2_with fail
                  go_quiet ((go_at_call 75; refine Calls.quiet_of_same ((l2Has_any yv z xv cv _ ?_ hmv).mono fun _ _ q => ⟨q.1.trans (by rw [HD.out]), q.2.symm⟩); exact hIv.gr0 ((Gr.refl _ _).drewN _)))
                  all_goals
                    go_wp2_with fail
                    go_roundw
                    case rel => exact ⟨j + 1, by omega, by go_num, HX.out z HEZ.out HM.out, HGQ.out.drewN _⟩
                    case measure => simp [intOf]; omega
                · have HD := Lib.hid (decide_eq_false hm)
                  have HM := Lib.hid hm
                  clear hm
                  go_wp2_with fail
                  go_quiet ((go_at_call 75; refine Calls.quiet_of_same ((l2Has_any yv z xv cv _ ?_ hmv).mono fun _ _ q => ⟨q.1.trans (by rw [HD.out]), q.2.symm⟩); exact hIv.gr0 ((Gr.refl _ _).drewN _)))
                  all_goals
                    go_wp2_with fail
                    go_ret
                    rw [HZ.out z HEZ.out HM.out]
                    exact ⟨rfl, (HG.out.trans0 (HGB.out.trans0 HGQ.out)).drewN _⟩
              · go_wp2_with fail
                go_roundw
                case rel => exact ⟨k + 1, by omega, by go_num, HYES.out (HRD.out fun t h => HA.out t h (by omega)), HGL.out.trans0 (HGB.out.trans0 HGQ.out)⟩
                case measure => simp [intOf]; omega
        · have HT := Lib.hid (hold_true (p := p) (LL := LL) HV.out HNE.out (fun j hj => HJ.out j hj (by have := congrArg List.length HBR2.out; rw [List.length_map] at this; omega)))
          go_wp2_with fail
          go_ret
          rw [HT.out]
          exact ⟨rfl, HG3.out.trans0 hg⟩
    · have hq : ((LL.length : Int) != (p.types.length : Int)) = true := by simp; omega
      have HO := Lib.hid (hold_out (p := p) (LL := LL) (.inr hne))
      clear hne
      go_wp2_with fail
      go_ret
      rw [HO.out]
      exact ⟨rfl, hG1⟩
end Go.Proofs.Ytdnhinkjmjpnnaa
