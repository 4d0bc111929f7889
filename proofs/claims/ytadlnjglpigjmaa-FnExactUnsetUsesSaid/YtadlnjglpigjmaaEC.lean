/- forward of the program, by valued: what can have a value (wip: stops at the call of the closure). -/
/- forward of the program, by valued: what always has a value, from what is given on. -/
import Derived.Test.YtadlnjglpigjmaaEA

import Derived.Test.YtadlnjglpigjmaaFA

namespace Go.Proofs.Ytadlnjglpigjmaa

open Go.RowKit

def Mays (p : Pr) (w : World) (e : Ending) (w' : World) : Prop := ∃ (g : Nat) (O : Nat → Nat), e = .returned (.slice (some ⟨g, 0, none⟩) (pts p).length (pts p).length) ∧ WRow w' g (pts p).length O ∧ (∀ j, O j < 2 ^ 6) ∧
  (∀ i v, (O i).testBit v = true ↔ Least (FwS (pts p) noneI (mayA p.types (pts p))) i v) ∧ Gr w w' none
set_option maxRecDepth 100000 in
set_option maxHeartbeats 4000000 in
theorem forwardMay_any (p : Pr) (gb : Nat) (w : World) (hGA : GraphAt w p gb) (hv : validP p = true) :
    Calls Try.prog 98 #[.pointer (some ⟨gb, 0, none⟩), .int .i64 0, .bool false, .func (.func 99) #[.pointer (some ⟨gb, 0, none⟩)] #[]] w (Mays p w) := by
  have hp : p.types.length ≤ 6 := valid_types hv
  have hl : (pts p).length ≤ 61 := pts_len hv
  have hl0 : 0 < (pts p).length := by have := pts_pos hv; unfold ptsOf at this; rw [if_pos hv] at this; exact this
  have HGP := Lib.hid hGA
  have HV := Lib.hid hv
  obtain ⟨L, a3, n3, a4, n4, al, cl, hL, d0, d1, d2, hr1, hr2, hr3⟩ := hGA
  unfold Mays
  have HL := Lib.hid hL
  rw [← hL] at hl hl0 ⊢
  have HR3 := Lib.hid hr3
  have HD2 := Lib.hid d2
  clear hL d0 d1 hr1 hr2 hr3 hv
  have hmk := fun w : World => run_make_row' (P := Try.prog) 22 3 (.int .i64 0) 8 Try.underlying22 Iinfo rfl .i64 .i64 L.length (by omega) (by omega) w
  go_enter Try.func98, Try.ntmps98
  go_upto_region 8 with fail
  have hW0 : WRow (w.alloc (.cells (madeCells #[.int .i64 0] L.length) 3)) w.heap.size L.length (fun _ => 0) := IRow.new w L.length
  have hG0 : Gr w (w.alloc (.cells (madeCells #[.int .i64 0] L.length) 3)) none := (Gr.refl _ _).alloc _
  have c00 := hW0.cell hl0
  have f00 := hW0.free 0
  have HWU := Lib.hid (show WRow (w.alloc (.cells ((madeCells #[.int .i64 0] L.length).setIfInBounds 0 (.int .i64 0)) 3)) w.heap.size L.length (fun _ => 0) from ⟨_, heap1_0 _ _, by simp [madeCells], fun j hj => by
    rw [Array.getElem?_setIfInBounds]
    split
    · simp [madeCells, hl0]
    · simp [madeCells, hj, Nat.mod_one]⟩)
  have HGU := Lib.hid (show Gr w (w.alloc (.cells ((madeCells #[.int .i64 0] L.length).setIfInBounds 0 (.int .i64 0)) 3)) none from (Gr.refl _ _).alloc _)
  clear hmk hW0 hG0
  go_wp2_with fail
  go_loopg [11] (leftG (boxL L.length 6) (tb fun _ => 0) true) (fun gh s wr => ∃ (c : Bool) (O : Nat → Nat), gh = leftG (boxL L.length 6) (tb O) c ∧ s = .bool c ∧ FwA L noneI (mayA p.types L) (tb O) c ∧ (∀ j, O j < 2 ^ 6) ∧ WRow wr w.heap.size L.length O ∧ Gr w wr none)
  case atStart => exact ⟨true, fun _ => 0, rfl, rfl, FwA.start ⟨fun i b h => by simp [tb] at h, fun b h => h.elim⟩, fun j => by simp, HWU.out, HGU.out⟩
  case round =>
    obtain ⟨c, O, rfl, rfl, hA, hO, hW, hg⟩ := hrel
    have HA := Lib.hid hA
    have HO := Lib.hid hO
    clear hA hO
    cases c with
    | false =>
      go_wp2_with fail
      go_ret
      exact ⟨_, O, rfl, hW, HO.out, HA.out.2 rfl, hg⟩
    | true =>
      have d2 := hg.cell HD2.out (by simp)
      have HW := Lib.hid hW
      have HG := Lib.hid hg
      clear hW hg
      go_wp2_with fail
      go_loopw [11, 45] (fun s i wq => ∃ (c : Bool) (O2 : Nat → Nat) (a : Nat), a ≤ L.length ∧ s = .bool c ∧ i = .int .i64 a ∧ FwR (boxL L.length 6) L noneI (mayA p.types L) (tb O) (tb O2) c a ∧ (∀ j, O2 j < 2 ^ 6) ∧ WRow wq w.heap.size L.length O2 ∧ Gr w wq none) (fun _ i _ => L.length - (intOf i).toNat)
      case atStart => exact ⟨false, O, 0, Nat.zero_le _, rfl, rfl, FwR.start HA.out.1, HO.out, HW.out, HG.out⟩
      case round =>
        obtain ⟨c, O2, a, ha, rfl, rfl, hR, hO2, hW2, hg2⟩ := hrel
        have HR := Lib.hid hR
        have HO2 := Lib.hid hO2
        clear hR hO2
        by_cases hlt : a < L.length
        · obtain ⟨b, off, rfl, an, cn, p0, p1, p2, p3, p4, hin, hcn⟩ := HR3.out a hlt
          replace p0 := hg2.cell p0 (by simp)
          replace p1 := hg2.cell p1 (by simp)
          replace p2 := hg2.cell p2 (by simp)
          replace p3 := hg2.cell p3 (by simp)
          replace p4 := hg2.cell p4 (by simp)
          have ca := hW2.cell hlt
          obtain ⟨q, hq⟩ : ∃ q, L[a] = q := ⟨_, rfl⟩
          rw [hq] at p0 p1 p2 p3 p4 hin hcn
          have hcA : ∀ o, (wr.alloc o).cell? ⟨w.heap.size, a, none⟩ = some (.int .i64 (O2 a : Nat)) := fun o => (IRow.gr0 hW2 ((Gr.refl _ _).alloc o)).cell hlt
          go_upto_region 15 with fail
          have hE := heap1_0 wr (.cells #[.int .i64 q.op, .int .i64 q.x, .int .i64 q.y, .int .i64 q.n, .slice an q.next.length cn] 67)
          obtain ⟨wB, hwB⟩ : ∃ wB, wB = wr.alloc (.cells #[.int .i64 q.op, .int .i64 q.x, .int .i64 q.y, .int .i64 q.n, .slice an q.next.length cn] 67) := ⟨_, rfl⟩
          have hgB : Gr wr wB none := by rw [hwB]; exact (Gr.refl _ _).alloc _
          rw [← hwB] at hE ⊢
          have b4 : wB.cell? ⟨wr.heap.size, 4, none⟩ = some (.slice an q.next.length cn) := cell_of_row _ _ _ _ _ _ hE
          have cB := (IRow.gr0 hW2 hgB).cell hlt
          have HWB := Lib.hid (IRow.gr0 hW2 hgB)
          have HGB := Lib.hid (hg2.trans0 hgB)
          have HIN := Lib.hid hin
          clear hwB hE hcA ca p0 p1 p2 p3 p4 hin hgB
          go_wp2_with fail
          refine (valued_any p gb a (O2 a) _ (HGP.out.gr HGB.out) HV.out (by rw [← HL.out]; exact hlt) (HO2.out a)).mono ?_
          rintro e w3 ⟨S, rfl, hS, hS6, hg3⟩
          have HS := Lib.hid hS
          clear hS
          replace b4 := hg3.cell b4 (by simp)
          have HW3 := Lib.hid (HWB.out.gr0 hg3)
          have HG3 := Lib.hid (HGB.out.trans0 hg3)
          clear hg3 cB hg2 hW2
          have HFI := Lib.hid (show FwI (boxL L.length 6) L noneI (mayA p.types L) (tb O) (tb O2) c a (fun v => S.testBit v) 0 from HR.out.enter (mayA_mono _ _) (fun v => by
            rw [HS.out v, HL.out]; unfold mayA tb
            rw [Bool.or_eq_true, Bool.and_eq_true, Bool.not_eq_true']))
          have HNX := Lib.hid (show nextOf L a = q.next by rw [nextOf_get hlt, hq])
          have HNK := Lib.hid (show ∀ k ∈ q.next, k < L.length by rw [← HNX.out, HL.out]; intro k hk; exact ((pts_next p) a (by rw [← HL.out]; exact hlt)).2 k hk)
          have hnl : q.next.length ≤ 2 := by
            have h1 := ((pts_next p) a (by rw [← HL.out]; exact hlt)).1
            rw [← HL.out, HNX.out] at h1; exact h1
          clear hq hcn
          go_wp2_with fail
          go_loopw [11, 60] (fun s i wq => ∃ (c : Bool) (O3 : Nat → Nat) (j : Nat), j ≤ q.next.length ∧ s = .bool c ∧ i = .int .i64 j ∧ FwI (boxL L.length 6) L noneI (mayA p.types L) (tb O) (tb O3) c a (fun v => S.testBit v) j ∧ (∀ j, O3 j < 2 ^ 6) ∧ WRow wq w.heap.size L.length O3 ∧ Gr w wq none) (fun _ i _ => q.next.length - (intOf i).toNat)
          case atStart => exact ⟨c, O2, 0, Nat.zero_le _, rfl, rfl, HFI.out, HO2.out, HW3.out, HG3.out⟩
          case round =>
            rename World => wq
            obtain ⟨c, O3, j, hj, rfl, rfl, hR, hO3, hW4, hg4⟩ := hrel
            have HRI := Lib.hid hR
            have HO3 := Lib.hid hO3
            have HG4 := Lib.hid hg4
            clear hR
            by_cases hjl : j < q.next.length
            · obtain ⟨b2, o2, rfl, _, hc2⟩ := (HIN.out.gr0 hg4).at (i := j) (by rw [zs_length]; exact hjl)
              rw [zs_get] at hc2
              have hjn : j < (nextOf L a).length := by rw [HNX.out]; exact hjl
              have HJK := Lib.hid (show (nextOf L a)[j] = q.next[j] by simp only [HNX.out])
              obtain ⟨k, hk⟩ : ∃ k, q.next[j] = k := ⟨_, rfl⟩
              have hkL : k < L.length := HNK.out k (hk ▸ List.getElem_mem hjl)
              simp only [hk] at hc2 HJK
              have ck := hW4.cell hkL
              have fk := hW4.free k
              have h3k := hO3 k
              have hor := i64_or (a := O3 k) (b := S) (by omega) (by omega)
              have HW4 := Lib.hid hW4
              have HKL := Lib.hid hkL
              have HJN := Lib.hid hjn
              have hW6 : O3 k ||| S < 2 ^ 6 := Nat.or_lt_two_pow h3k hS6
              obtain ⟨o, ho⟩ : ∃ o, O3 k = o := ⟨_, rfl⟩
              rw [ho] at hor ck hW6 h3k
              obtain ⟨W, hWW⟩ : ∃ W, o ||| S = W := ⟨_, rfl⟩
              rw [hWW] at hor hW6
              have HWW := Lib.hid hWW
              have HOo := Lib.hid ho
              clear hW4 hg4 hk hkL hWW ho hO3
              by_cases he : W = o
              · have hcmp : ((W : Int) != ((o : Nat) : Int)) = false := by simp [he]
                have HE := Lib.hid he
                clear he
                go_wp2_with fail
                go_roundw
                case rel => exact ⟨c, O3, j + 1, by omega, rfl, by go_num, HRI.out.same HJN.out (fun v hv => by rw [HJK.out]; show (O3 k).testBit v = true; rw [HOo.out, ← HE.out, ← HWW.out, Nat.testBit_or, hv, Bool.or_true]), HO3.out, HW4.out, HG4.out⟩
                case measure => simp [intOf]; omega
              · have hcmp : ((W : Int) != ((o : Nat) : Int)) = true := by simp; omega
                have HE := Lib.hid he
                clear he
                have HN := Lib.hid (show FwI (boxL L.length 6) L noneI (mayA p.types L) (tb O) (tb (updW O3 k W)) true a (fun v => S.testBit v) (j + 1) from by
                  obtain ⟨v, hv6, hne⟩ := bit_ne hW6 h3k HE.out
                  rw [← HWW.out, Nat.testBit_or] at hne
                  have hSv : S.testBit v = true := by cases h : S.testBit v with
                    | true => rfl
                    | false => rw [h, Bool.or_false] at hne; exact absurd rfl hne
                  have hov : o.testBit v = false := by cases h : o.testBit v with
                    | false => rfl
                    | true => rw [h, Bool.true_or] at hne; exact absurd rfl hne
                  have hch := HRI.out.change (mayA_mono _ _) hlt HJN.out (b := v) (by rw [HJK.out]; exact boxL_mem HKL.out hv6) hSv (by rw [HJK.out]; show (O3 k).testBit v = false; rw [HOo.out]; exact hov)
                  rw [HJK.out] at hch
                  rw [← HWW.out, ← HOo.out, tb_or]
                  exact hch)
                have HL6 := Lib.hid (show ∀ j, updW O3 k W j < 2 ^ 6 from updW_lt HO3.out hW6)
                go_wp2_with fail
                go_roundw
                case rel => exact ⟨true, updW O3 k W, j + 1, by omega, rfl, by go_num, HN.out, HL6.out, WRow.upd HW4.out k W, HG4.out.setNew (Nat.le_refl _) _⟩
                case measure => simp [intOf]; omega
            · go_wp2_with fail
              go_roundw
              case rel => exact ⟨c, O3, a + 1, by omega, rfl, by go_num, HRI.out.exit (by rw [HNX.out]; omega), HO3.out, hW4, HG4.out⟩
              case measure => simp [intOf]; omega
        · go_wp2_with fail
          go_roundg (leftG (boxL L.length 6) (tb O2) c)
          case measure => exact HR.out.left
          case rel => exact ⟨c, O2, rfl, rfl, HR.out.done (by omega), HO2.out, hW2, hg2⟩
end Go.Proofs.Ytadlnjglpigjmaa

namespace Go.Proofs.Ytadlnjglpigjmaa

open Go.RowKit

set_option maxRecDepth 100000 in
set_option maxHeartbeats 1000000 in
theorem all_any (p : Pr) (gb : Nat) (w : World) (hGA : GraphAt w p gb) (hp : p.types.length ≤ 6) :
    Calls Try.prog 123 #[.pointer (some ⟨gb, 0, none⟩)] w fun e w' => e = .returned (.int .i64 ((2 ^ p.types.length - 1 : Nat) : Int)) ∧ w = w' := by
  obtain ⟨L, a3, n3, a4, n4, al, cl, hL, d0, d1, d2, hr1, hr2, hr3⟩ := hGA
  have hw : wrap64 (2 ^ p.types.length) = ((2 ^ p.types.length : Nat) : Int) := w64_pow (by omega)
  have h26 : 2 ^ p.types.length ≤ 2 ^ 6 := Nat.pow_le_pow_right (by omega) hp
  have h0 : 0 < 2 ^ p.types.length := Nat.two_pow_pos _
  obtain ⟨N, hN⟩ : ∃ N, p.types.length = N := ⟨_, rfl⟩
  rw [hN] at hw h26 h0 d0 hp ⊢
  obtain ⟨M, hM⟩ : ∃ M, 2 ^ N = M := ⟨_, rfl⟩
  rw [hM] at hw h26 h0 ⊢
  clear hL d1 d2 hr1 hr2 hr3 hM hN
  go_enter Try.func123, Try.ntmps123
  go_wp2_with fail
  go_ret
  exact ⟨ret_int (by omega), rfl⟩
def Alls (p : Pr) (f : Nat) (w : World) (e : Ending) (w' : World) : Prop := ∃ (g : Nat) (O : Nat → Nat), e = .returned (.slice (some ⟨g, 0, none⟩) (pts p).length (pts p).length) ∧ WRow w' g (pts p).length O ∧ (∀ j, O j < 2 ^ p.types.length) ∧
  (∀ i v, tbN p.types.length O i v = true ↔ Least (FwS (pts p) (unI p.types.length f.testBit) (unA p.types (pts p))) i v) ∧ Gr w w' none
set_option maxRecDepth 100000 in
set_option maxHeartbeats 4000000 in
theorem forwardAll_any (p : Pr) (gb f : Nat) (w : World) (hGA : GraphAt w p gb) (hv : validP p = true) (hf : f < 2 ^ p.types.length) :
    Calls Try.prog 98 #[.pointer (some ⟨gb, 0, none⟩), .int .i64 f, .bool true, .func (.func 99) #[.pointer (some ⟨gb, 0, none⟩)] #[]] w (Alls p f w) := by
  have hp : p.types.length ≤ 6 := valid_types hv
  have hl : (pts p).length ≤ 61 := pts_len hv
  have hl0 : 0 < (pts p).length := by have := pts_pos hv; unfold ptsOf at this; rw [if_pos hv] at this; exact this
  have HGP := Lib.hid hGA
  have HV := Lib.hid hv
  obtain ⟨L, a3, n3, a4, n4, al, cl, hL, d0, d1, d2, hr1, hr2, hr3⟩ := hGA
  unfold Alls
  have HL := Lib.hid hL
  rw [← hL] at hl hl0 ⊢
  have HR3 := Lib.hid hr3
  have HD2 := Lib.hid d2
  clear hL d0 d1 hr1 hr2 hr3 hv
  have hmk := fun w : World => run_make_row' (P := Try.prog) 22 3 (.int .i64 0) 8 Try.underlying22 Iinfo rfl .i64 .i64 L.length (by omega) (by omega) w
  go_enter Try.func98, Try.ntmps98
  have h26 : 2 ^ p.types.length ≤ 2 ^ 6 := Nat.pow_le_pow_right (by omega) hp
  have hW0 : WRow (w.alloc (.cells (madeCells #[.int .i64 0] L.length) 3)) w.heap.size L.length (fun _ => 0) := IRow.new w L.length
  have hG0 : Gr w (w.alloc (.cells (madeCells #[.int .i64 0] L.length) 3)) none := (Gr.refl _ _).alloc _
  obtain ⟨N, hN⟩ : ∃ N, p.types.length = N := ⟨_, rfl⟩
  rw [hN] at hf h26 hp ⊢
  have HN := Lib.hid hN
  obtain ⟨M, hM⟩ : ∃ M, 2 ^ N = M := ⟨_, rfl⟩
  have HM := Lib.hid hM
  rw [hM] at hf h26
  have hM0 : 0 < M := by rw [← hM]; exact Nat.two_pow_pos _
  clear hN hM
  go_wp2_with fail
  go_loopw [27] (fun i wr => ∃ k : Nat, k ≤ L.length ∧ i = .int .i64 k ∧ WRow wr w.heap.size L.length (fun j => if j < k then M - 1 else 0) ∧ Gr w wr none) (fun i _ => L.length - (intOf i).toNat)
  case atStart => exact ⟨0, Nat.zero_le _, rfl, IRow.congr hW0 (fun j _ => by simp), hG0⟩
  case round =>
    obtain ⟨k, hk, rfl, hW, hg⟩ := hrel
    have HW := Lib.hid hW
    have HG := Lib.hid hg
    clear hW0 hG0 hmk
    by_cases hlt : k < L.length
    · have ck := hW.cell hlt
      have fk := hW.free k
      have d2 := hg.cell HD2.out (by simp)
      clear hW hg
      go_wp2_with fail
      refine (all_any p gb _ (HGP.out.gr HG.out) (by rw [HN.out]; omega)).mono ?_
      rw [HN.out, HM.out]
      rintro e w3 ⟨rfl, rfl⟩
      go_wp2_with fail
      go_roundw
      case rel => exact ⟨k + 1, by omega, by go_num, IRow.congr (WRow.upd HW.out k (M - 1)) (fun j _ => by
        unfold updW
        by_cases e : j = k
        · subst e; simp
        · have : (j < k + 1) = (j < k) := by apply propext; omega
          simp [e, this]), HG.out.setNew (Nat.le_refl _) _⟩
      case measure => simp [intOf]; omega
    · obtain rfl : k = L.length := by omega
      rename World => wC
      have HWU := Lib.hid (show WRow (wC.setCell ⟨w.heap.size, 0, none⟩ (.int .i64 (f : Nat))) w.heap.size L.length (updW (fun _ => M - 1) 0 f) from by
        refine IRow.congr (WRow.upd HW.out 0 f) fun j hj => ?_
        unfold updW; simp [hj])
      have HGU := Lib.hid (show Gr w (wC.setCell ⟨w.heap.size, 0, none⟩ (.int .i64 (f : Nat))) none from HG.out.setNew (Nat.le_refl _) _)
      have c00 := hW.cell hl0
      have f00 := hW.free 0
      have HFW := Lib.hid (show FwOk L (unI N f.testBit) (unA p.types L) (tbN N (updW (fun _ => M - 1) 0 f)) from by
        refine ⟨fun i b h => ?_, fun b h => ?_⟩
        · unfold tbN updW at h
          by_cases e : i = 0
          · subst e
            simp only [if_true, Bool.and_eq_true, decide_eq_true_eq, Bool.not_eq_true'] at h
            exact Least.step (FwS.mono (unA_mono _ _)) (.inl ⟨rfl, h⟩)
          · rw [if_neg e, ← HM.out, Nat.testBit_two_pow_sub_one] at h
            cases hd : decide (b < N) <;> simp [hd] at h
        · unfold tbN updW
          simp [h.1, h.2])
      have HU6 := Lib.hid (show ∀ j, updW (fun _ => M - 1) 0 f j < M from fun j => by unfold updW; split; exact hf; show M - 1 < M; omega)
      clear hW hg
      go_wp2_with fail
      go_loopg [11] (leftG (boxL L.length 6) (tbN N (updW (fun _ => M - 1) 0 f)) true) (fun gh s wr => ∃ (c : Bool) (O : Nat → Nat), gh = leftG (boxL L.length 6) (tbN N O) c ∧ s = .bool c ∧ FwA L (unI N f.testBit) (unA p.types L) (tbN N O) c ∧ (∀ j, O j < M) ∧ WRow wr w.heap.size L.length O ∧ Gr w wr none)
      case atStart => exact ⟨true, _, rfl, rfl, FwA.start HFW.out, HU6.out, HWU.out, HGU.out⟩
      case round =>
        obtain ⟨c, O, rfl, rfl, hA, hO, hW, hg⟩ := hrel
        have HA := Lib.hid hA
        have HO := Lib.hid hO
        clear hA hO
        cases c with
        | false =>
          go_wp2_with fail
          go_ret
          exact ⟨_, O, rfl, hW, (fun j => by rw [HM.out]; exact HO.out j), HA.out.2 rfl, hg⟩
        | true =>
          have d2 := hg.cell HD2.out (by simp)
          have HW := Lib.hid hW
          have HG := Lib.hid hg
          clear hW hg
          go_wp2_with fail
          go_loopw [11, 45] (fun s i wq => ∃ (c : Bool) (O2 : Nat → Nat) (a : Nat), a ≤ L.length ∧ s = .bool c ∧ i = .int .i64 a ∧ FwR (boxL L.length 6) L (unI N f.testBit) (unA p.types L) (tbN N O) (tbN N O2) c a ∧ (∀ j, O2 j < M) ∧ WRow wq w.heap.size L.length O2 ∧ Gr w wq none) (fun _ i _ => L.length - (intOf i).toNat)
          case atStart => exact ⟨false, O, 0, Nat.zero_le _, rfl, rfl, FwR.start HA.out.1, HO.out, HW.out, HG.out⟩
          case round =>
            obtain ⟨c, O2, a, ha, rfl, rfl, hR, hO2, hW2, hg2⟩ := hrel
            have HR := Lib.hid hR
            have HO2 := Lib.hid hO2
            clear hR hO2
            by_cases hlt : a < L.length
            · obtain ⟨b, off, rfl, an, cn, p0, p1, p2, p3, p4, hin, hcn⟩ := HR3.out a hlt
              replace p0 := hg2.cell p0 (by simp)
              replace p1 := hg2.cell p1 (by simp)
              replace p2 := hg2.cell p2 (by simp)
              replace p3 := hg2.cell p3 (by simp)
              replace p4 := hg2.cell p4 (by simp)
              have ca := hW2.cell hlt
              obtain ⟨q, hq⟩ : ∃ q, L[a] = q := ⟨_, rfl⟩
              rw [hq] at p0 p1 p2 p3 p4 hin hcn
              have hcA : ∀ o, (wr.alloc o).cell? ⟨w.heap.size, a, none⟩ = some (.int .i64 (O2 a : Nat)) := fun o => (IRow.gr0 hW2 ((Gr.refl _ _).alloc o)).cell hlt
              go_upto_region 15 with fail
              have hE := heap1_0 wr (.cells #[.int .i64 q.op, .int .i64 q.x, .int .i64 q.y, .int .i64 q.n, .slice an q.next.length cn] 67)
              obtain ⟨wB, hwB⟩ : ∃ wB, wB = wr.alloc (.cells #[.int .i64 q.op, .int .i64 q.x, .int .i64 q.y, .int .i64 q.n, .slice an q.next.length cn] 67) := ⟨_, rfl⟩
              have hgB : Gr wr wB none := by rw [hwB]; exact (Gr.refl _ _).alloc _
              rw [← hwB] at hE ⊢
              have b4 : wB.cell? ⟨wr.heap.size, 4, none⟩ = some (.slice an q.next.length cn) := cell_of_row _ _ _ _ _ _ hE
              have cB := (IRow.gr0 hW2 hgB).cell hlt
              have HWB := Lib.hid (IRow.gr0 hW2 hgB)
              have HGB := Lib.hid (hg2.trans0 hgB)
              have HIN := Lib.hid hin
              clear hwB hE hcA ca p0 p1 p2 p3 p4 hin hgB
              go_wp2_with fail
              refine (valued_any p gb a (O2 a) _ (HGP.out.gr HGB.out) HV.out (by rw [← HL.out]; exact hlt) (Nat.lt_of_lt_of_le (HO2.out a) h26)).mono ?_
              rintro e w3 ⟨S, rfl, hS, hS6, hg3⟩
              have HS := Lib.hid hS
              clear hS
              replace b4 := hg3.cell b4 (by simp)
              have HW3 := Lib.hid (HWB.out.gr0 hg3)
              have HG3 := Lib.hid (HGB.out.trans0 hg3)
              clear hg3 cB hg2 hW2
              have HFI := Lib.hid (show FwI (boxL L.length 6) L (unI N f.testBit) (unA p.types L) (tbN N O) (tbN N O2) c a (fun v => decide (v < N) && !S.testBit v) 0 from HR.out.enter (unA_mono _ _) (fun v => by
                rw [show S.testBit v = (((O2 a).testBit v && !tkL p.types (pts p) a v) || stL (pts p) a v) from HS.out v, HL.out]
                show _ ↔ v < p.types.length ∧ ((decide (v < N) && !(O2 a).testBit v) = true ∨ tkL p.types (pts p) a v = true) ∧ stL (pts p) a v = false
                rw [HN.out]
                by_cases h : v < N
                · rw [decide_eq_true h]
                  cases (O2 a).testBit v <;> cases tkL p.types (pts p) a v <;> cases stL (pts p) a v <;> simp [h]
                · simp [h]))
              have HNX := Lib.hid (show nextOf L a = q.next by rw [nextOf_get hlt, hq])
              have HNK := Lib.hid (show ∀ k ∈ q.next, k < L.length by rw [← HNX.out, HL.out]; intro k hk; exact ((pts_next p) a (by rw [← HL.out]; exact hlt)).2 k hk)
              have hnl : q.next.length ≤ 2 := by
                have h1 := ((pts_next p) a (by rw [← HL.out]; exact hlt)).1
                rw [← HL.out, HNX.out] at h1; exact h1
              clear hq hcn
              go_wp2_with fail
              go_loopw [11, 60] (fun s i wq => ∃ (c : Bool) (O3 : Nat → Nat) (j : Nat), j ≤ q.next.length ∧ s = .bool c ∧ i = .int .i64 j ∧ FwI (boxL L.length 6) L (unI N f.testBit) (unA p.types L) (tbN N O) (tbN N O3) c a (fun v => decide (v < N) && !S.testBit v) j ∧ (∀ j, O3 j < M) ∧ WRow wq w.heap.size L.length O3 ∧ Gr w wq none) (fun _ i _ => q.next.length - (intOf i).toNat)
              case atStart => exact ⟨c, O2, 0, Nat.zero_le _, rfl, rfl, HFI.out, HO2.out, HW3.out, HG3.out⟩
              case round =>
                rename World => wq
                obtain ⟨c, O3, j, hj, rfl, rfl, hR, hO3, hW4, hg4⟩ := hrel
                have HRI := Lib.hid hR
                have HO3 := Lib.hid hO3
                have HG4 := Lib.hid hg4
                clear hR
                by_cases hjl : j < q.next.length
                · obtain ⟨b2, o2, rfl, _, hc2⟩ := (HIN.out.gr0 hg4).at (i := j) (by rw [zs_length]; exact hjl)
                  rw [zs_get] at hc2
                  have hjn : j < (nextOf L a).length := by rw [HNX.out]; exact hjl
                  have HJK := Lib.hid (show (nextOf L a)[j] = q.next[j] by simp only [HNX.out])
                  obtain ⟨k, hk⟩ : ∃ k, q.next[j] = k := ⟨_, rfl⟩
                  have hkL : k < L.length := HNK.out k (hk ▸ List.getElem_mem hjl)
                  simp only [hk] at hc2 HJK
                  have ck := hW4.cell hkL
                  have fk := hW4.free k
                  have h3k := hO3 k
                  have hor := i64_and (a := O3 k) (b := S) (by omega) (by omega)
                  have HW4 := Lib.hid hW4
                  have HKL := Lib.hid hkL
                  have HJN := Lib.hid hjn
                  have hW6 : O3 k &&& S < M := Nat.lt_of_le_of_lt Nat.and_le_left h3k
                  obtain ⟨o, ho⟩ : ∃ o, O3 k = o := ⟨_, rfl⟩
                  rw [ho] at hor ck hW6 h3k
                  obtain ⟨W, hWW⟩ : ∃ W, o &&& S = W := ⟨_, rfl⟩
                  rw [hWW] at hor hW6
                  have HWW := Lib.hid hWW
                  have HOo := Lib.hid ho
                  clear hW4 hg4 hk hkL hWW ho hO3
                  by_cases he : W = o
                  · have hcmp : ((W : Int) != ((o : Nat) : Int)) = false := by simp [he]
                    have HE := Lib.hid he
                    clear he
                    go_wp2_with fail
                    go_roundw
                    case rel => exact ⟨c, O3, j + 1, by omega, rfl, by go_num, HRI.out.same HJN.out (fun v hv => by
                      rw [HJK.out]
                      show (decide (v < N) && !(O3 k).testBit v) = true
                      have h1 : (O3 k).testBit v = ((O3 k).testBit v && S.testBit v) := by
                        conv => lhs; rw [HOo.out, ← HE.out, ← HWW.out, Nat.testBit_and, ← HOo.out]
                      rw [h1]
                      cases h2 : S.testBit v with
                      | true => rw [h2] at hv; simp at hv
                      | false => rw [h2] at hv; rw [Bool.and_false]; exact hv), HO3.out, HW4.out, HG4.out⟩
                    case measure => simp [intOf]; omega
                  · have hcmp : ((W : Int) != ((o : Nat) : Int)) = true := by simp; omega
                    have HE := Lib.hid he
                    clear he
                    have HN := Lib.hid (show FwI (boxL L.length 6) L (unI N f.testBit) (unA p.types L) (tbN N O) (tbN N (updW O3 k W)) true a (fun v => decide (v < N) && !S.testBit v) (j + 1) from by
                      obtain ⟨v, hv6, hne⟩ := bit_ne (Nat.lt_of_lt_of_le hW6 h26) (Nat.lt_of_lt_of_le h3k h26) HE.out
                      rw [← HWW.out, Nat.testBit_and] at hne
                      have hov : o.testBit v = true := by cases h : o.testBit v with
                        | true => rfl
                        | false => rw [h, Bool.false_and] at hne; exact absurd rfl hne
                      have hSv : S.testBit v = false := by cases h : S.testBit v with
                        | false => rfl
                        | true => rw [h, Bool.and_true] at hne; exact absurd rfl hne
                      have hvN : v < N := by
                        rcases Nat.lt_or_ge v N with h | h
                        · exact h
                        · have := Nat.testBit_lt_two_pow (Nat.lt_of_lt_of_le h3k (by rw [← HM.out]; exact Nat.pow_le_pow_right (by omega) h))
                          rw [hov] at this; cases this
                      have hch := HRI.out.change (unA_mono _ _) hlt HJN.out (b := v) (by rw [HJK.out]; exact boxL_mem HKL.out hv6) (by rw [hSv, decide_eq_true hvN]; rfl) (by rw [HJK.out]; show (decide (v < N) && !(O3 k).testBit v) = false; rw [HOo.out, hov]; simp)
                      rw [HJK.out] at hch
                      rw [← HWW.out, ← HOo.out, tbN_and]
                      exact hch)
                    have HL6 := Lib.hid (show ∀ j, updW O3 k W j < M from fun j => by unfold updW; split; exact hW6; exact HO3.out j)
                    go_wp2_with fail
                    go_roundw
                    case rel => exact ⟨true, updW O3 k W, j + 1, by omega, rfl, by go_num, HN.out, HL6.out, WRow.upd HW4.out k W, HG4.out.setNew (Nat.le_refl _) _⟩
                    case measure => simp [intOf]; omega
                · go_wp2_with fail
                  go_roundw
                  case rel => exact ⟨c, O3, a + 1, by omega, rfl, by go_num, HRI.out.exit (by rw [HNX.out]; omega), HO3.out, hW4, HG4.out⟩
                  case measure => simp [intOf]; omega
            · go_wp2_with fail
              go_roundg (leftG (boxL L.length 6) (tbN N O2) c)
              case measure => exact HR.out.left
              case rel => exact ⟨c, O2, rfl, rfl, HR.out.done (by omega), HO2.out, hW2, hg2⟩
end Go.Proofs.Ytadlnjglpigjmaa
