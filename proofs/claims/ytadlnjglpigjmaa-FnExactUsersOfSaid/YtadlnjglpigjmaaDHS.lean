/- What variables can have: the walk of tracked in the program, at the function of setters. -/
import Derived.Test.YtadlnjglpigjmaaDI

import Derived.Deep.LoopGhost

import Derived.Deep.RegionHeld3

import Derived.BigRegion

namespace Go.Proofs.Ytadlnjglpigjmaa

open Go.RowKit

set_option maxRecDepth 100000 in
set_option maxHeartbeats 8000000 in
theorem trackedS_any (p : Pr) (gb : Nat) (val : Nat → (Nat × Nat → Prop) → Nat → Prop) (hval : MonoV val) (w : World) (hGA : GraphAt w p gb) (hv : validP p = true)
    (hfn : ∀ (i : Nat) (O : Nat → Nat) (w' : World), Gr w w' none → i < (pts p).length → 0 ≤ setOf (ptAt (pts p) i).op (ptAt (pts p) i).x → (∀ v, O v < 2 ^ 64) → Calls Try.prog 107 #[.int .i64 i, .agg (words O)] w' (Tells val i O w')) :
    Calls Try.prog 81 #[.pointer (some ⟨gb, 0, none⟩), .func (.func 107) #[] #[]] w (Tracked p val w) := by
  have hp : p.types.length ≤ 6 := valid_types hv
  have hl : (pts p).length ≤ 61 := pts_len hv
  have HST := Lib.hid (fun k (hk : k < (pts p).length) => set_in hv hk)
  have HGP := Lib.hid hGA
  have HNX := Lib.hid (pts_next p)
  have HFN := Lib.hid hfn
  obtain ⟨L, a3, n3, a4, n4, al, cl, hL, d0, d1, d2, hr1, hr2, hr3⟩ := hGA
  unfold Tracked
  have HL := Lib.hid hL
  rw [← hL] at hl HST HNX ⊢
  have HR3 := Lib.hid hr3
  have HD2 := Lib.hid d2
  clear hL d0 d1 hr1 hr2 hr3 hv hfn
  have hmk := fun w : World => run_make6 L.length (by omega) w
  go_enter Try.func81, Try.ntmps81
  go_wp2_with fail
  have hW0 := FRow.new w L.length
  have hG0 : Gr w (w.alloc (.cells (madeCells fzero (L.length * 6)) 82)) none := (Gr.refl _ _).alloc _
  have hFw0 : FwOk L (fun _ => False) (trkA p.types L val) (tb2 fun _ _ => 0) := ⟨fun i b h => by unfold tb2 at h; simp at h, fun b h => h.elim⟩
  have HFw0 := Lib.hid hFw0
  clear hmk hFw0
  go_loopg [6] (leftG (boxL2 L.length) (tb2 fun _ _ => 0) true) (fun gh s wr => ∃ (c : Bool) (W : Nat → Nat → Nat), gh = leftG (boxL2 L.length) (tb2 W) c ∧ s = .bool c ∧ FwA L (fun _ => False) (trkA p.types L val) (tb2 W) c ∧ (∀ i v, W i v < 2 ^ 64) ∧ (∀ i v, 6 ≤ v → W i v = 0) ∧ FRow wr w.heap.size L.length W ∧ Gr w wr none)
  case atStart => exact ⟨true, fun _ _ => 0, rfl, rfl, FwA.start HFw0.out, (fun _ _ => by simp), (fun _ _ _ => rfl), hW0, hG0⟩
  case round =>
    obtain ⟨c, W, rfl, rfl, hA, hW64, hW6, hW, hg⟩ := hrel
    clear hW0 hG0
    have HA := Lib.hid hA
    have HW64 := Lib.hid hW64
    have HW6 := Lib.hid hW6
    clear hA hW64 hW6
    cases c with
    | false =>
      go_wp2_with fail
      go_ret
      exact ⟨_, W, rfl, hW, HW64.out, fun i b => by rw [HA.out.2 rfl i b]; unfold Trk; rw [← HL.out], hg⟩
    | true =>
      have HW := Lib.hid hW
      have HG := Lib.hid hg
      replace d2 := hg.cell HD2.out (by simp)
      clear hW
      go_wp2_with fail
      go_loopw [6, 29] (fun s i wq => ∃ (c : Bool) (W2 : Nat → Nat → Nat) (a : Nat), a ≤ L.length ∧ s = .bool c ∧ i = .int .i64 a ∧ FwR (boxL2 L.length) L (fun _ => False) (trkA p.types L val) (tb2 W) (tb2 W2) c a ∧ (∀ i v, W2 i v < 2 ^ 64) ∧ (∀ i v, 6 ≤ v → W2 i v = 0) ∧ FRow wq w.heap.size L.length W2 ∧ Gr w wq none) (fun _ i _ => L.length - (intOf i).toNat)
      case atStart => exact ⟨false, W, 0, Nat.zero_le _, rfl, rfl, FwR.start HA.out.1, HW64.out, HW6.out, HW.out, HG.out⟩
      case round =>
        obtain ⟨c, W2, a, ha, rfl, rfl, hR, hW64, hW6, hW2, hg2⟩ := hrel
        rename World => wA
        have HR := Lib.hid hR
        have HW64 := Lib.hid hW64
        have HW6 := Lib.hid hW6
        have HW2 := Lib.hid hW2
        have HG2 := Lib.hid hg2
        clear hR hW64 hW6 hW2 hg d2
        by_cases haL : a < L.length
        · obtain ⟨b, po, rfl, an, cn, c0, c1, c2, c3, c4, hin, -⟩ := HR3.out a haL
          replace c0 := hg2.cell c0 (by simp)
          replace c1 := hg2.cell c1 (by simp)
          replace c2 := hg2.cell c2 (by simp)
          replace c3 := hg2.cell c3 (by simp)
          replace c4 := hg2.cell c4 (by simp)
          obtain ⟨q, eq⟩ : ∃ q, L[a] = q := ⟨_, rfl⟩
          have hnq : nextOf L a = q.next := by rw [nextOf_get haL, eq]
          rw [eq] at c0 c1 c2 c3 c4 hin
          have hpa : ptAt L a = q := (ptAt_get haL).trans eq
          have hst := HST.out a haL
          rw [eq] at hst
          have HPA := Lib.hid hpa
          have HS1 := Lib.hid (show setOf q.op q.x < 6 by omega)
          have HS0 := Lib.hid hst.1
          have HNQ := Lib.hid hnq
          have hnx := (HNX.out a haL)
          rw [hnq] at hnx
          have HNL := Lib.hid hnx.2
          obtain ⟨nn, hnn⟩ : ∃ nn, q.next.length = nn := ⟨_, rfl⟩
          rw [hnn] at c4 hnx
          have hnn2 : nn ≤ 2 := hnx.1
          have HNN := Lib.hid hnn
          have HIN := Lib.hid (hin.old (Nat.le_refl w.heap.size))
          have t0 := HW2.out.cell haL (v := 0) (by omega)
          have t1 := HW2.out.cell haL (v := 1) (by omega)
          have t2 := HW2.out.cell haL (v := 2) (by omega)
          have t3 := HW2.out.cell haL (v := 3) (by omega)
          have t4 := HW2.out.cell haL (v := 4) (by omega)
          have t5 := HW2.out.cell haL (v := 5) (by omega)
          simp only [Nat.add_zero] at t0
          obtain ⟨O, hO⟩ : ∃ O, W2 a = O := ⟨_, rfl⟩
          rw [hO] at t0 t1 t2 t3 t4 t5
          have HO := Lib.hid hO
          clear eq hnq hpa hst hnx hnn hin hO
          go_upto_region 8 with fail
          have hGB : Gr wA (wA.alloc (.cells #[.int .i64 q.op, .int .i64 q.x, .int .i64 q.y, .int .i64 q.n, .slice an nn cn] 67)) none := (Gr.refl _ _).alloc _
          have hE := heap1_0 wA (.cells #[.int .i64 q.op, .int .i64 q.x, .int .i64 q.y, .int .i64 q.n, .slice an nn cn] 67)
          obtain ⟨wB, hwB⟩ : ∃ wB, wB = wA.alloc (.cells #[.int .i64 q.op, .int .i64 q.x, .int .i64 q.y, .int .i64 q.n, .slice an nn cn] 67) := ⟨_, rfl⟩
          have hszB : wB.heap.size = wA.heap.size + 1 := by rw [hwB]; simp
          rw [← hwB] at hGB hE ⊢
          replace t0 := hGB.cell t0 (by simp)
          replace t1 := hGB.cell t1 (by simp)
          replace t2 := hGB.cell t2 (by simp)
          replace t3 := hGB.cell t3 (by simp)
          replace t4 := hGB.cell t4 (by simp)
          replace t5 := hGB.cell t5 (by simp)
          have HE := Lib.hid hE
          have HGB := Lib.hid hGB
          have HSZB := Lib.hid hszB
          clear hwB hE hGB c0 c1 c2 c3 c4 hg2 hszB
          go_upto_region 9 with fail
          have hGC : Gr wB (wB.alloc (.cells #[.int .u64 (O 0 : Nat), .int .u64 (O 1 : Nat), .int .u64 (O 2 : Nat), .int .u64 (O 3 : Nat), .int .u64 (O 4 : Nat), .int .u64 (O 5 : Nat)] 82)) none := (Gr.refl _ _).alloc _
          have hWC : Words (wB.alloc (.cells #[.int .u64 (O 0 : Nat), .int .u64 (O 1 : Nat), .int .u64 (O 2 : Nat), .int .u64 (O 3 : Nat), .int .u64 (O 4 : Nat), .int .u64 (O 5 : Nat)] 82)) wB.heap.size O := heap1_0 _ _
          obtain ⟨wC, hwC⟩ : ∃ wC, wC = wB.alloc (.cells #[.int .u64 (O 0 : Nat), .int .u64 (O 1 : Nat), .int .u64 (O 2 : Nat), .int .u64 (O 3 : Nat), .int .u64 (O 4 : Nat), .int .u64 (O 5 : Nat)] 82) := ⟨_, rfl⟩
          rw [← hwC] at hGC hWC ⊢
          have x0 : wC.cell? ⟨wA.heap.size, 0, none⟩ = some (.int .i64 q.op) := hGC.cell (cell_of_row _ _ _ _ _ _ HE.out) (by simp)
          have x1 : wC.cell? ⟨wA.heap.size, 1, none⟩ = some (.int .i64 q.x) := hGC.cell (cell_of_row _ _ _ _ _ _ HE.out) (by simp)
          have x2 : wC.cell? ⟨wA.heap.size, 2, none⟩ = some (.int .i64 q.y) := hGC.cell (cell_of_row _ _ _ _ _ _ HE.out) (by simp)
          have x3 : wC.cell? ⟨wA.heap.size, 3, none⟩ = some (.int .i64 q.n) := hGC.cell (cell_of_row _ _ _ _ _ _ HE.out) (by simp)
          have x4 : wC.cell? ⟨wA.heap.size, 4, none⟩ = some (.slice an nn cn) := hGC.cell (cell_of_row _ _ _ _ _ _ HE.out) (by simp)
          have HGC := Lib.hid (HG2.out.trans0 (HGB.out.trans0 hGC))
          have HGrC := Lib.hid (HGB.out.trans0 hGC)
          have HWC := Lib.hid hWC
          clear hwC hGC hWC t0 t1 t2 t3 t4 t5
          go_wp2_with fail
          refine (taken_any p gb q.op q.x q.y q.n (.slice an nn cn) _ (HGP.out.gr HGC.out) hp).mono ?_
          rintro e w1 ⟨T1, rfl, hT1, hT6, hg1⟩
          have HT1 := Lib.hid hT1
          have HG1 := Lib.hid (HGrC.out.trans0 hg1)
          replace x0 := hg1.cell x0 (by simp)
          replace x1 := hg1.cell x1 (by simp)
          replace x2 := hg1.cell x2 (by simp)
          replace x3 := hg1.cell x3 (by simp)
          replace x4 := hg1.cell x4 (by simp)
          have HW1 := Lib.hid (HWC.out.gr0 hg1)
          have hsz1 := hg1.size
          clear hT1 hg1
          go_wp2_with fail
          refine (bits_any T1 _ hT6).mono ?_
          obtain ⟨lt, hlt⟩ : ∃ lt, coll T1.testBit 6 = lt := ⟨_, rfl⟩
          have HLT := Lib.hid (show ∀ v : Nat, ((v : Int) ∈ lt ↔ v < 6 ∧ T1.testBit v = true) from fun v => by rw [← hlt]; exact mem_coll_nat)
          have HLT2 := Lib.hid (show ∀ x ∈ lt, ∃ v : Nat, v < 6 ∧ x = v from fun x hx => by
            rw [← hlt] at hx
            obtain ⟨k, hk, _, e⟩ := mem_coll.1 hx
            exact ⟨k, hk, e⟩)
          have hltl : lt.length ≤ 6 := by rw [← hlt]; exact coll_len _ _
          rw [hlt]
          rintro e w2 ⟨at2, ct2, rfl, hIT, hIB, -, hg2⟩
          have HIT := Lib.hid hIT.block
          have HIB := Lib.hid hIB
          have hszw : wB.heap.size < w1.heap.size := HW1.out.lt
          have HSZW := Lib.hid hszw
          have HG2' := Lib.hid (HG1.out.trans0 hg2)
          replace x0 := hg2.cell x0 (by simp)
          replace x1 := hg2.cell x1 (by simp)
          replace x2 := hg2.cell x2 (by simp)
          replace x3 := hg2.cell x3 (by simp)
          replace x4 := hg2.cell x4 (by simp)
          have HW2' := Lib.hid (HW1.out.gr0 hg2)
          have X0 := Lib.hid x0
          have X1 := Lib.hid x1
          have X2 := Lib.hid x2
          have X3 := Lib.hid x3
          have X4 := Lib.hid x4
          have hgB : wA.heap.size ≠ wB.heap.size := by rw [HSZB.out]; omega
          clear hIT hIB hlt hg2 x0 x1 x2 x3 x4 hsz1 hszw
          go_wp2_with fail
          go_loopw [43] (fun s wq => ∃ k : Nat, k ≤ lt.length ∧ s = .int .i64 k ∧ Words wq wB.heap.size (fun v => if (v : Int) ∈ lt.take k then 0 else O v) ∧ Gr w2 wq (some wB.heap.size)) (fun s _ => lt.length - (intOf s).toNat)
          case atStart => exact ⟨0, Nat.zero_le _, rfl, HW2'.out.congr (fun v _ => by simp), Gr.refl _ _⟩
          case round =>
            obtain ⟨k, hk, rfl, hWk, hgk⟩ := hrel
            have HWK := Lib.hid hWk
            have HGK := Lib.hid hgk
            by_cases hklt : k < lt.length
            · obtain ⟨b5, o5, rfl, -, c5⟩ := (HIT.out.gr hgk (by intro b o hb e; cases e; have := (HIB.out _ hb).1; have := HSZW.out; omega)).at hklt
              obtain ⟨j, hj6, hj⟩ := HLT2.out _ (List.getElem_mem hklt)
              rw [hj] at c5
              have HJ := Lib.hid hj
              have hcj := hWk.cell hj6
              have hfj := hWk.free j
              have HN := Lib.hid ((hWk.set 0 hj6).congr (fun v _ => zero_step hklt hj v))
              obtain ⟨zz, hzz⟩ : ∃ zz, (if ((j : Nat) : Int) ∈ lt.take k then 0 else O j) = zz := ⟨_, rfl⟩
              rw [hzz] at hcj
              clear hWk hgk hj hzz
              go_wp2_with fail
              go_roundw
              case rel => exact ⟨k + 1, by omega, by go_num, HN.out, HGK.out.setOwn rfl _⟩
              case measure => simp [intOf]; omega
            · obtain rfl : k = lt.length := by omega
              rename World => wK
              have hWt : Words wK wB.heap.size (fun v => if T1.testBit v = true then 0 else O v) := hWk.congr fun v hv => by
                rw [List.take_of_length_le (Nat.le_refl _)]
                have := HLT.out v
                by_cases e : T1.testBit v = true
                · rw [if_pos e, if_pos (this.2 ⟨hv, e⟩)]
                · rw [if_neg e, if_neg (fun h => e (this.1 h).2)]
              have HWT := Lib.hid hWt
              have x0 := hgk.cell X0.out (by simpa using hgB.symm)
              have x1 := hgk.cell X1.out (by simpa using hgB.symm)
              have x2 := hgk.cell X2.out (by simpa using hgB.symm)
              have x3 := hgk.cell X3.out (by simpa using hgB.symm)
              have x4 := hgk.cell X4.out (by simpa using hgB.symm)
              have hgAK : Gr wA wK none := HG2'.out.trans hgk (fun r e => .inr (by cases e; rw [HSZB.out]; omega))
              have HGAK := Lib.hid hgAK
              obtain ⟨s, hs⟩ : ∃ s, setOf q.op q.x = s := ⟨_, rfl⟩
              have HS := Lib.hid hs
              have hs6 : s < 6 := by rw [← hs]; exact HS1.out
              have hsm : -1 ≤ s := by rw [← hs]; exact HS0.out
              clear hWt hWk hgk hs hklt hgAK HWK HGK
              go_wp2_with fail
              refine (sets_any q.op q.x q.y q.n _ _).mono ?_
              rw [HS.out]
              rintro e w3 ⟨rfl, hg3⟩
              have y4 := hg3.cell x4 (by simp)
              have HG3 := Lib.hid (HGAK.out.trans0 hg3)
              have hW3 := HWT.out.gr0 hg3
              have HW3 := Lib.hid hW3
              clear x0 x1 x2 x3 x4 hg3
              by_cases h0 : 0 ≤ s
              case' pos =>
                obtain ⟨sj, rfl⟩ := Int.eq_ofNat_of_zero_le h0
                have hsj : sj < 6 := by omega
                have hF3 := HW2.out.gr0 HG3.out
                have t0 := hF3.cell haL (v := 0) (by omega)
                have t1 := hF3.cell haL (v := 1) (by omega)
                have t2 := hF3.cell haL (v := 2) (by omega)
                have t3 := hF3.cell haL (v := 3) (by omega)
                have t4 := hF3.cell haL (v := 4) (by omega)
                have t5 := hF3.cell haL (v := 5) (by omega)
                simp only [Nat.add_zero] at t0
                rw [HO.out] at t0 t1 t2 t3 t4 t5
                clear hF3 hW3
                go_wp2_with fail
                refine (HFN.out a O w3 (HG2.out.trans0 HG3.out) (by rw [← HL.out]; exact haL) (by rw [← HL.out, HPA.out, HS.out]; exact h0) (fun v => by rw [← HO.out]; exact HW64.out a v)).mono ?_
                rintro e w4 ⟨V, rfl, hV64, hV, hg4⟩
                have hW4 := HW3.out.gr0 hg4
                have c4 := hW4.cell hsj
                have f4 := hW4.free sj
                obtain ⟨zz, hzz⟩ : ∃ zz, (if T1.testBit sj = true then 0 else O sj) = zz := ⟨_, rfl⟩
                rw [hzz] at c4
                replace y4 := hg4.cell y4 (by simp)
                have HV := Lib.hid hV
                have HW4 := Lib.hid hW4
                have HG4 := Lib.hid (HG3.out.trans0 hg4)
                clear hV hW4 hg4 t0 t1 t2 t3 t4 t5 hzz
                go_upto_region 17 with fail
                obtain ⟨w5, hw5⟩ : ∃ w5, w5 = w4.setCell ⟨wB.heap.size, sj, none⟩ (.int .u64 (V : Nat)) := ⟨_, rfl⟩
                have HGA5 := Lib.hid (show Gr wA w5 none by rw [hw5]; exact HG4.out.setNew (by simp; rw [HSZB.out]; omega) _)
                replace y4 : w5.cell? ⟨wA.heap.size, 4, none⟩ = some (.slice an nn cn) := by rw [hw5]; exact (own_set _ _ _ _).cell y4 (by simpa using hgB.symm)
                obtain ⟨O3, hO3⟩ : ∃ O3, aftW ((sj : Nat) : Int) (fun v => T1.testBit v) V O = O3 := ⟨_, rfl⟩
                have HW5 := Lib.hid (show Words w5 wB.heap.size O3 by
                  rw [hw5, ← hO3]
                  refine (HW4.out.set V hsj).congr fun v hv => ?_
                  unfold updW aftW
                  by_cases e : v = sj
                  · subst e; simp
                  · have : ¬ ((sj : Nat) : Int) = (v : Int) := by omega
                    simp [e, this])
                have HO64 := Lib.hid (show ∀ v, O3 v < 2 ^ 64 from fun v => by
                  rw [← hO3]; unfold aftW; split
                  · exact hV64
                  · split
                    · omega
                    · rw [← HO.out]; exact HW64.out a v)
                have HROW := Lib.hid (show ∀ b, rowW O3 b = true ↔ trkA p.types L val a (fun b => tb2 W2 a b = true) b from fun b => by
                  rw [← hO3, ← HO.out]
                  refine aftW_row (by rw [HPA.out]; exact HS.out) (by omega) (fun v => by rw [HPA.out]; exact HT1.out v) (fun v k h => by rw [HW6.out a v h, Nat.zero_testBit]) (fun _ k => ?_) b
                  have := HV.out k
                  rw [← HO.out] at this; exact this)
                rw [← hw5]
                clear hw5 hO3 c4 f4 hV64
              case' neg =>
                rename World => w5
                obtain ⟨O3, hO3⟩ : ∃ O3, aftW s (fun v => T1.testBit v) 0 O = O3 := ⟨_, rfl⟩
                have HGA5 := Lib.hid (show Gr wA w5 none from HG3.out)
                have HW5 := Lib.hid (show Words w5 wB.heap.size O3 by
                  rw [← hO3]
                  refine HW3.out.congr fun v hv => ?_
                  unfold aftW
                  have : ¬ s = (v : Int) := by omega
                  simp [this])
                have HO64 := Lib.hid (show ∀ v, O3 v < 2 ^ 64 from fun v => by
                  rw [← hO3]; unfold aftW; split
                  · omega
                  · split
                    · omega
                    · rw [← HO.out]; exact HW64.out a v)
                have HROW := Lib.hid (show ∀ b, rowW O3 b = true ↔ trkA p.types L val a (fun b => tb2 W2 a b = true) b from fun b => by
                  rw [← hO3, ← HO.out]
                  exact aftW_row (by rw [HPA.out]; exact HS.out) (by omega) (fun v => by rw [HPA.out]; exact HT1.out v) (fun v k h => by rw [HW6.out a v h, Nat.zero_testBit]) (fun h => absurd h h0) b)
                clear hO3 hW3
                go_upto_region 17 with fail
              all_goals
                have hlw : w.heap.size < wA.heap.size := HW2.out.lt
                have hgB2 : w.heap.size ≠ wB.heap.size := by rw [HSZB.out]; omega
                have HF5 := Lib.hid (HW2.out.gr0 HGA5.out)
                have hJ0 := HR.out.enterJ (trkA_mono hval) HROW.out
                have HJ0 := Lib.hid (hJ0.mono (Q' := QV (nextOf L a) 0 0) (fun k b h _ => by
                  rcases h with ⟨j', h1, _⟩ | ⟨h1, _⟩
                  · omega
                  · omega))
                have HG5 := Lib.hid (HG2.out.trans0 HGA5.out)
                clear hJ0
                go_wp2_with fail
                go_loopw [6, 66] (fun s i wq => ∃ (c : Bool) (W3 : Nat → Nat → Nat) (j : Nat), j ≤ nn ∧ s = .bool c ∧ i = .int .i64 j ∧ FwJ (boxL2 L.length) L (fun _ => False) (trkA p.types L val) (tb2 W) (tb2 W3) c a (rowW O3) (QV (nextOf L a) j 0) ∧ (∀ i v, W3 i v < 2 ^ 64) ∧ (∀ i v, 6 ≤ v → W3 i v = 0) ∧ FRow wq w.heap.size L.length W3 ∧ Gr w5 wq (some w.heap.size)) (fun _ i _ => nn - (intOf i).toNat)
                case atStart => exact ⟨c, W2, 0, Nat.zero_le _, rfl, rfl, HJ0.out, HW64.out, HW6.out, HF5.out, Gr.refl _ _⟩
                case round =>
                  obtain ⟨c, W3, j, hj, rfl, rfl, hJ, h64, h6, hF, hgj⟩ := hrel
                  have HJ := Lib.hid hJ
                  have H64 := Lib.hid h64
                  have H6 := Lib.hid h6
                  have HF := Lib.hid hF
                  have HGJ := Lib.hid hgj
                  clear hJ h64 h6 hF
                  by_cases hjn : j < nn
                  · have hjq : j < q.next.length := by rw [HNN.out]; exact hjn
                    obtain ⟨b6, o6, rfl, -, c6⟩ := (HIN.out.gr (HG5.out.weaken.trans HGJ.out (fun r e => .inl e)) (fun b o h => h)).at (i := j) (by rw [zs_length]; exact hjq)
                    obtain ⟨kk, hkk⟩ : ∃ kk, q.next[j] = kk := ⟨_, rfl⟩
                    have hzk : (zs q.next)[j]'(by rw [zs_length]; exact hjq) = (kk : Int) := by rw [← hkk]; simp [zs]
                    rw [hzk] at c6
                    have HX := Lib.hid (show (nextOf L a)[j]? = some kk by rw [HNQ.out, List.getElem?_eq_getElem hjq, hkk])
                    have HKM := Lib.hid (show kk ∈ nextOf L a by rw [HNQ.out, ← hkk]; exact List.getElem_mem hjq)
                    have hkL : kk < L.length := HNL.out kk (by rw [← hkk]; exact List.getElem_mem hjq)
                    have hWj := HW5.out.gr hgj (by simpa using hgB2)
                    have z0 := hWj.cell (v := 0) (by omega)
                    have z1 := hWj.cell (v := 1) (by omega)
                    have z2 := hWj.cell (v := 2) (by omega)
                    have z3 := hWj.cell (v := 3) (by omega)
                    have z4 := hWj.cell (v := 4) (by omega)
                    have z5 := hWj.cell (v := 5) (by omega)
                    clear hkk hzk hWj hgj
                    go_wp2_with fail
                    go_loopw [6, 71] (fun s i wq => ∃ (c : Bool) (W3 : Nat → Nat → Nat) (u : Nat), u ≤ 6 ∧ s = .bool c ∧ i = .int .i64 u ∧ FwJ (boxL2 L.length) L (fun _ => False) (trkA p.types L val) (tb2 W) (tb2 W3) c a (rowW O3) (QV (nextOf L a) j u) ∧ (∀ i v, W3 i v < 2 ^ 64) ∧ (∀ i v, 6 ≤ v → W3 i v = 0) ∧ FRow wq w.heap.size L.length W3 ∧ Gr w5 wq (some w.heap.size)) (fun _ i _ => 6 - (intOf i).toNat)
                    case atStart => exact ⟨c, W3, 0, Nat.zero_le _, rfl, rfl, HJ.out, H64.out, H6.out, HF.out, HGJ.out⟩
                    case round =>
                      obtain ⟨c, W3, u, hu, rfl, rfl, hJ, h64, h6, hF, hgj⟩ := hrel
                      have HJ := Lib.hid hJ
                      have H64 := Lib.hid h64
                      have H6 := Lib.hid h6
                      have HF := Lib.hid hF
                      have HGJ := Lib.hid hgj
                      clear hJ h64 h6 hgj z0 z1 z2 z3 z4 z5 c6
                      by_cases hu6 : u < 6
                      · have e0 := hF.cell hkL hu6
                        have fz := hF.free (kk * 6 + u)
                        have hor : bits BinOp.or .u64 (W3 kk u : Nat) (O3 u : Nat) = ((W3 kk u ||| O3 u : Nat) : Int) := u64_or (H64.out kk u) (HO64.out u)
                        obtain ⟨X, hX⟩ : ∃ X, W3 kk u ||| O3 u = X := ⟨_, rfl⟩
                        obtain ⟨Y, hY⟩ : ∃ Y, W3 kk u = Y := ⟨_, rfl⟩
                        obtain ⟨Z, hZ⟩ : ∃ Z, O3 u = Z := ⟨_, rfl⟩
                        have hix : ∀ wz : World, (Instr.index 82 (.agg #[.int .u64 (O3 0 : Nat), .int .u64 (O3 1 : Nat), .int .u64 (O3 2 : Nat), .int .u64 (O3 3 : Nat), .int .u64 (O3 4 : Nat), .int .u64 (O3 5 : Nat)]) (.int .i64 u)).run Try.prog wz = .ok (.int .u64 (Z : Nat)) wz := fun wz => by rw [← hZ]; exact index_words O3 hu6 wz
                        rw [hX, hY, hZ] at hor
                        rw [hY] at e0
                        have HX2 := Lib.hid hX
                        have HY := Lib.hid hY
                        have HZ := Lib.hid hZ
                        clear hF hX hY hZ
                        go_wp2_with fail
                        go_cut [89] (fun s wx => s = .bool ((X : Int) != (Y : Int)) ∧ Gr wr wx none)
                        case first =>
--<RA
                          refine wp_region_held_drew (S := fun w' => Gr wr w' none) (by kernel_rfl) ((Gr.refl _ _).drew) (fun hHeld => ?_)
                          refine wpAnyH_take (i := 0) (v := ?_) rfl (by kernel_rfl) (by kernel_rfl) (by kernel_rfl) (fun _ _ _ h => h) (Or.inl ⟨by rfl, ?_⟩) hHeld ?_
                          rotate_left
                          focus (intro wq hq; clear hq; go_simp; try with_reducible rfl)
                          simp only [Act.put, List.getElem_toArray, List.getElem_cons_zero, List.setIfInBounds_toArray, List.set_cons_zero, List.set_cons_succ]
                          refine wpAnyH_take (i := 1) (v := ?_) rfl (by kernel_rfl) (by kernel_rfl) (by kernel_rfl) (fun _ _ _ h => h) (Or.inl ⟨by rfl, ?_⟩) hHeld ?_
                          rotate_left
                          focus (intro wq hq; clear hq; go_simp; try with_reducible rfl)
                          simp only [Act.put, List.getElem_toArray, List.getElem_cons_succ, List.getElem_cons_zero, List.setIfInBounds_toArray, List.set_cons_zero, List.set_cons_succ]
                          refine wpAnyH_take (i := 2) (v := ?_) rfl (by kernel_rfl) (by kernel_rfl) (by kernel_rfl) (fun _ _ _ h => h) (Or.inl ⟨by rfl, ?_⟩) hHeld ?_
                          rotate_left
                          focus (intro wq hq; clear hq; go_simp; try with_reducible rfl)
                          simp only [Act.put, List.getElem_toArray, List.getElem_cons_succ, List.getElem_cons_zero, List.setIfInBounds_toArray, List.set_cons_zero, List.set_cons_succ]
                          refine wpAnyH_take (i := 3) (v := ?_) rfl (by kernel_rfl) (by kernel_rfl) (by kernel_rfl) (fun _ _ _ h => h) (Or.inl ⟨by rfl, ?_⟩) hHeld ?_
                          rotate_left
                          focus (intro wq hq; clear hq; go_simp; try with_reducible rfl)
                          simp only [Act.put, List.getElem_toArray, List.getElem_cons_succ, List.getElem_cons_zero, List.setIfInBounds_toArray, List.set_cons_zero, List.set_cons_succ]
                          refine wpAnyH_take (i := 4) (v := ?_) rfl (by kernel_rfl) (by kernel_rfl) (by kernel_rfl) (fun _ _ _ h => h) (Or.inl ⟨by rfl, ?_⟩) hHeld ?_
                          rotate_left
                          focus (intro wq hq; clear hq; go_simp; try with_reducible rfl)
                          simp only [Act.put, List.getElem_toArray, List.getElem_cons_succ, List.getElem_cons_zero, List.setIfInBounds_toArray, List.set_cons_zero, List.set_cons_succ]
                          refine wpAnyH_take (i := 5) (v := ?_) rfl (by kernel_rfl) (by kernel_rfl) (by kernel_rfl) (fun _ _ _ h => h) (Or.inl ⟨by rfl, ?_⟩) hHeld ?_
                          rotate_left
                          focus (intro wq hq; have k0 := hq.cell e0 (by simp); go_simp; try with_reducible rfl)
                          simp only [Act.put, List.getElem_toArray, List.getElem_cons_succ, List.getElem_cons_zero, List.setIfInBounds_toArray, List.set_cons_zero, List.set_cons_succ]
                          refine wpAnyH_take (i := 6) (v := ?_) rfl (by kernel_rfl) (by kernel_rfl) (by kernel_rfl) (fun _ _ _ h => h) (Or.inl ⟨by rfl, ?_⟩) hHeld ?_
                          rotate_left
                          focus (intro wq hq; clear hq; go_simp; try with_reducible rfl)
                          simp only [Act.put, List.getElem_toArray, List.getElem_cons_succ, List.getElem_cons_zero, List.setIfInBounds_toArray, List.set_cons_zero, List.set_cons_succ]
                          refine wpAnyH_take (i := 7) (v := ?_) rfl (by kernel_rfl) (by kernel_rfl) (by kernel_rfl) (fun _ _ _ h => h) (Or.inl ⟨by rfl, ?_⟩) hHeld ?_
                          rotate_left
                          focus (intro wq hq; clear hq; go_simp; try with_reducible rfl)
                          simp only [Act.put, List.getElem_toArray, List.getElem_cons_succ, List.getElem_cons_zero, List.setIfInBounds_toArray, List.set_cons_zero, List.set_cons_succ]
                          refine wpAnyH_take (i := 8) (v := ?_) rfl (by kernel_rfl) (by kernel_rfl) (by kernel_rfl) (fun _ _ _ h => h) (Or.inl ⟨by rfl, ?_⟩) hHeld ?_
                          rotate_left
                          focus (intro wq hq; clear hq; go_simp; try with_reducible rfl)
                          simp only [Act.put, List.getElem_toArray, List.getElem_cons_succ, List.getElem_cons_zero, List.setIfInBounds_toArray, List.set_cons_zero, List.set_cons_succ]
                          refine wpAnyH_take (i := 9) (v := ?_) rfl (by kernel_rfl) (by kernel_rfl) (by kernel_rfl) (fun _ _ _ h => h) (Or.inl ⟨by rfl, ?_⟩) hHeld ?_
                          rotate_left
                          focus (intro wq hq; clear hq; go_simp; try with_reducible rfl)
                          simp only [Act.put, List.getElem_toArray, List.getElem_cons_succ, List.getElem_cons_zero, List.setIfInBounds_toArray, List.set_cons_zero, List.set_cons_succ]
                          refine wpAnyH_take (i := 10) (v := ?_) rfl (by kernel_rfl) (by kernel_rfl) (by kernel_rfl) (fun _ _ _ h => h) (Or.inl ⟨by rfl, ?_⟩) hHeld ?_
                          rotate_left
                          focus (intro wq hq; clear hq; go_simp; try with_reducible rfl)
                          simp only [Act.put, List.getElem_toArray, List.getElem_cons_succ, List.getElem_cons_zero, List.setIfInBounds_toArray, List.set_cons_zero, List.set_cons_succ]
                          refine wpAnyH_take (i := 11) (v := ?_) rfl (by kernel_rfl) (by kernel_rfl) (by kernel_rfl) (fun _ _ _ h => h) (Or.inl ⟨by rfl, ?_⟩) hHeld ?_
                          rotate_left
                          focus (intro wq hq; clear hq; go_simp; try with_reducible rfl)
                          simp only [Act.put, List.getElem_toArray, List.getElem_cons_succ, List.getElem_cons_zero, List.setIfInBounds_toArray, List.set_cons_zero, List.set_cons_succ]
                          refine wpAnyH_take (i := 12) (v := ?_) rfl (by kernel_rfl) (by kernel_rfl) (by kernel_rfl) (fun _ _ _ h => h) (Or.inl ⟨by rfl, ?_⟩) hHeld ?_
                          rotate_left
                          focus (intro wq hq; clear hq; go_simp; try with_reducible rfl)
                          simp only [Act.put, List.getElem_toArray, List.getElem_cons_succ, List.getElem_cons_zero, List.setIfInBounds_toArray, List.set_cons_zero, List.set_cons_succ]
                          refine wpAnyH_take (i := 13) (v := ?_) rfl (by kernel_rfl) (by kernel_rfl) (by kernel_rfl) (fun _ _ _ h => h) (Or.inl ⟨by rfl, ?_⟩) hHeld ?_
                          rotate_left
                          focus (intro wq hq; have k0 := hq.cell e0 (by simp); go_simp; try with_reducible rfl)
                          simp only [Act.put, List.getElem_toArray, List.getElem_cons_succ, List.getElem_cons_zero, List.setIfInBounds_toArray, List.set_cons_zero, List.set_cons_succ]
                          refine wpAnyH_take (i := 14) (v := ?_) rfl (by kernel_rfl) (by kernel_rfl) (by kernel_rfl) (fun _ _ _ h => h) (Or.inl ⟨by rfl, ?_⟩) hHeld ?_
                          rotate_left
                          focus (intro wq hq; clear hq; go_simp; try with_reducible rfl)
                          simp only [Act.put, List.getElem_toArray, List.getElem_cons_succ, List.getElem_cons_zero, List.setIfInBounds_toArray, List.set_cons_zero, List.set_cons_succ]
                          refine wpAnyH_done (by kernel_rfl) ?_ _
                          go_wp2_with fail
                          go_meet
                          exact ⟨rfl, hHeld⟩
--RA>
                        case rest =>
                          rename World => wx
                          obtain ⟨rfl, hgx⟩ := hcut
                          have f0 := hgx.cell e0 (by simp)
                          have fx := (HF.out.gr0 hgx).free (kk * 6 + u)
                          have HFX := Lib.hid (HF.out.gr0 hgx)
                          have HGX := Lib.hid (HGJ.out.trans0 hgx)
                          clear hgx e0 fz
                          by_cases he : X = Y
                          · have hc : ((X : Int) != (Y : Int)) = false := by simp [he]
                            have HN := Lib.hid (HJ.out.same (Q' := QV (nextOf L a) j (u + 1)) (QV.step HX.out (by rw [HX2.out, he, ← HY.out])))
                            clear he
                            go_wp2_with fail
                            go_roundw
                            case rel => exact ⟨c, W3, u + 1, by omega, rfl, by go_num, HN.out, H64.out, H6.out, HFX.out, HGX.out⟩
                            case measure => simp [intOf]; omega
                          · have hc : ((X : Int) != (Y : Int)) = true := by simp; omega
                            have HN := Lib.hid (show FwJ (boxL2 L.length) L (fun _ => False) (trkA p.types L val) (tb2 W) (tb2 (upd2 W3 kk u X)) true a (rowW O3) (QV (nextOf L a) j (u + 1)) from by
                              obtain ⟨k, hk, h1, h2⟩ := or_ne (H64.out kk u) (HO64.out u) (by rw [HX2.out, HY.out]; exact he)
                              rw [← HX2.out, tb2_or]
                              exact HJ.out.change (trkA_mono hval) haL HKM.out (rowV_le hu6) (boxL2_mem hkL hu6 hk) (show rowV O3 u (u, k) = true by unfold rowV; simp [h1]) h2)
                            have HX64 := Lib.hid (show ∀ i v, upd2 W3 kk u X i v < 2 ^ 64 from upd2_lt H64.out (by rw [← HX2.out]; exact Nat.or_lt_two_pow (H64.out kk u) (HO64.out u)))
                            have HX6 := Lib.hid (show ∀ i v, 6 ≤ v → upd2 W3 kk u X i v = 0 from fun i v h => by unfold upd2; rw [if_neg (by omega)]; exact H6.out i v h)
                            have HFN2 := Lib.hid (fun (wz : World) (h : Gr wx wz none) => FRow.set (HFX.out.gr0 h) kk u X hu6)
                            clear he
                            go_upto_region 24 with fail
                            go_region
                            all_goals
                              go_wp2_with fail
                              go_roundw
                              case rel => exact ⟨true, upd2 W3 kk u X, u + 1, by omega, rfl, by go_num, HN.out, HX64.out, HX6.out, (HFN2.out _ (Gr.refl _ _)).gr0 (Gr.refl _ _).drew, (HGX.out.setOwn rfl _).drew⟩
                              case measure => simp [intOf]; omega
                      · obtain rfl : u = 6 := by omega
                        go_wp2_with fail
                        go_roundw
                        case rel => exact ⟨c, W3, j + 1, by omega, rfl, by go_num, HJ.out.mono QV.next, H64.out, H6.out, HF.out, HGJ.out⟩
                        case measure => simp [intOf]; omega
                  · obtain rfl : j = nn := by omega
                    go_wp2_with fail
                    go_roundw
                    case rel => exact ⟨c, W3, a + 1, by omega, rfl, by go_num, HJ.out.exit (fun k hk b _ => QV.exit (by rw [HNQ.out, HNN.out]; exact Nat.le_refl _) k hk b), H64.out, H6.out, HF.out, HG5.out.trans HGJ.out (fun r e => .inr (by cases e; exact Nat.le_refl _))⟩
                    case measure => simp [intOf]; omega
        · obtain rfl : a = L.length := by omega
          go_wp2_with fail
          go_roundg (leftG (boxL2 L.length) (tb2 W2) c)
          case measure => exact HR.out.left
          case rel => exact ⟨c, W2, rfl, rfl, HR.out.done (Nat.le_refl _), HW64.out, HW6.out, HW2.out, HG2.out⟩
end Go.Proofs.Ytadlnjglpigjmaa
