/- From which loans values come, and which loans are placed: walks of loansIn, ofVars and placed of the program. -/
import Derived.Test.YtadlnjglpigjmaaEL

import Derived.BigQuiet

namespace Go.Proofs.Ytadlnjglpigjmaa

open Go.RowKit

set_option maxRecDepth 100000 in
set_option maxHeartbeats 8000000 in
theorem loansIn_any (p : Pr) (gb : Nat) (w : World) (hGA : GraphAt w p gb) (hv : validP p = true) :
    Calls Try.prog 86 #[.pointer (some ⟨gb, 0, none⟩)] w (Tracked p (loanV p.types (pts p)) w) := by
  have HVL := Lib.hid (show MonoV (loanV p.types (pts p)) from loanV_mono _ _)
  have HV := Lib.hid hv
  have hp : p.types.length ≤ 6 := valid_types hv
  have hl : (pts p).length ≤ 61 := pts_len hv
  have HST := Lib.hid (fun k (hk : k < (pts p).length) => set_in hv hk)
  have HGP := Lib.hid hGA
  have HNX := Lib.hid (pts_next p)
  obtain ⟨L, a3, n3, a4, n4, al, cl, hL, d0, d1, d2, hr1, hr2, hr3⟩ := hGA
  unfold Tracked
  have HL := Lib.hid hL
  rw [← hL] at hl HST HNX HVL ⊢
  obtain ⟨val, hval0⟩ : ∃ val, loanV p.types L = val := ⟨_, rfl⟩
  have HVV := Lib.hid hval0
  rw [hval0] at HVL ⊢
  clear hval0
  have HR3 := Lib.hid hr3
  have HD2 := Lib.hid d2
  clear hL d0 d1 hr1 hr2 hr3 hv
  have hmk := fun w : World => run_make6 L.length (by omega) w
  go_enter Try.func86, Try.ntmps86
  go_wp2_with fail
  have hW0 := FRow.new w L.length
  have hG0 : Gr w (w.alloc (.cells (madeCells fzero (L.length * 6)) 82)) none := (Gr.refl _ _).alloc _
  have hFw0 : FwOk L (fun _ => False) (trkA p.types L val) (tb2 fun _ _ => 0) := ⟨fun i b h => by unfold tb2 at h; simp at h, fun b h => h.elim⟩
  have HFw0 := Lib.hid hFw0
  clear hmk hFw0
  go_loopg [4] (leftG (boxL2 L.length) (tb2 fun _ _ => 0) true) (fun gh s wr => ∃ (c : Bool) (W : Nat → Nat → Nat), gh = leftG (boxL2 L.length) (tb2 W) c ∧ s = .bool c ∧ FwA L (fun _ => False) (trkA p.types L val) (tb2 W) c ∧ (∀ i v, W i v < 2 ^ 64) ∧ (∀ i v, 6 ≤ v → W i v = 0) ∧ FRow wr w.heap.size L.length W ∧ Gr w wr none)
  case atStart => exact ⟨true, fun _ _ => 0, rfl, rfl, FwA.start HFw0.out, (fun _ _ => by simp), (fun _ _ _ => rfl), hW0, hG0⟩
  case round =>
    obtain ⟨c, W, rfl, rfl, hA, hW64, hW6, hW, hg⟩ := hrel
    clear hW0 hG0
    have HA := Lib.hid hA
    have HW64 := Lib.hid hW64
    have HW6 := Lib.hid hW6
    clear hA hW64 hW6
    cases c with
    | false =>
      go_wp2_with fail
      go_ret
      exact ⟨_, W, rfl, hW, HW64.out, fun i b => by rw [HA.out.2 rfl i b, ← HVV.out]; unfold Trk; rw [← HL.out], hg⟩
    | true =>
      have HW := Lib.hid hW
      have HG := Lib.hid hg
      replace d2 := hg.cell HD2.out (by simp)
      clear hW
      go_wp2_with fail
      go_loopw [4, 24] (fun s i wq => ∃ (c : Bool) (W2 : Nat → Nat → Nat) (a : Nat), a ≤ L.length ∧ s = .bool c ∧ i = .int .i64 a ∧ FwR (boxL2 L.length) L (fun _ => False) (trkA p.types L val) (tb2 W) (tb2 W2) c a ∧ (∀ i v, W2 i v < 2 ^ 64) ∧ (∀ i v, 6 ≤ v → W2 i v = 0) ∧ FRow wq w.heap.size L.length W2 ∧ Gr w wq none) (fun _ i _ => L.length - (intOf i).toNat)
      case atStart => exact ⟨false, W, 0, Nat.zero_le _, rfl, rfl, FwR.start HA.out.1, HW64.out, HW6.out, HW.out, HG.out⟩
      case round =>
        obtain ⟨c, W2, a, ha, rfl, rfl, hR, hW64, hW6, hW2, hg2⟩ := hrel
        rename World => wA
        have HR := Lib.hid hR
        have HW64 := Lib.hid hW64
        have HW6 := Lib.hid hW6
        have HW2 := Lib.hid hW2
        have HG2 := Lib.hid hg2
        clear hR hW64 hW6 hW2 hg d2
        by_cases haL : a < L.length
        · obtain ⟨b, po, rfl, an, cn, c0, c1, c2, c3, c4, hin, -⟩ := HR3.out a haL
          replace c0 := hg2.cell c0 (by simp)
          replace c1 := hg2.cell c1 (by simp)
          replace c2 := hg2.cell c2 (by simp)
          replace c3 := hg2.cell c3 (by simp)
          replace c4 := hg2.cell c4 (by simp)
          obtain ⟨q, eq⟩ : ∃ q, L[a] = q := ⟨_, rfl⟩
          have hnq : nextOf L a = q.next := by rw [nextOf_get haL, eq]
          rw [eq] at c0 c1 c2 c3 c4 hin
          have hpa : ptAt L a = q := (ptAt_get haL).trans eq
          have hst := HST.out a haL
          rw [eq] at hst
          have HPA := Lib.hid hpa
          have HS1 := Lib.hid (show setOf q.op q.x < 6 by omega)
          have HS0 := Lib.hid hst.1
          have HNQ := Lib.hid hnq
          have hnx := (HNX.out a haL)
          rw [hnq] at hnx
          have HNL := Lib.hid hnx.2
          obtain ⟨nn, hnn⟩ : ∃ nn, q.next.length = nn := ⟨_, rfl⟩
          rw [hnn] at c4 hnx
          have hnn2 : nn ≤ 2 := hnx.1
          have HNN := Lib.hid hnn
          have HIN := Lib.hid (hin.old (Nat.le_refl w.heap.size))
          have t0 := HW2.out.cell haL (v := 0) (by omega)
          have t1 := HW2.out.cell haL (v := 1) (by omega)
          have t2 := HW2.out.cell haL (v := 2) (by omega)
          have t3 := HW2.out.cell haL (v := 3) (by omega)
          have t4 := HW2.out.cell haL (v := 4) (by omega)
          have t5 := HW2.out.cell haL (v := 5) (by omega)
          simp only [Nat.add_zero] at t0
          obtain ⟨O, hO⟩ : ∃ O, W2 a = O := ⟨_, rfl⟩
          rw [hO] at t0 t1 t2 t3 t4 t5
          have HO := Lib.hid hO
          clear eq hnq hpa hst hnx hnn hin hO
          go_upto_region 8 with fail
          have hGB : Gr wA (wA.alloc (.cells #[.int .i64 q.op, .int .i64 q.x, .int .i64 q.y, .int .i64 q.n, .slice an nn cn] 67)) none := (Gr.refl _ _).alloc _
          have hE := heap1_0 wA (.cells #[.int .i64 q.op, .int .i64 q.x, .int .i64 q.y, .int .i64 q.n, .slice an nn cn] 67)
          obtain ⟨wB, hwB⟩ : ∃ wB, wB = wA.alloc (.cells #[.int .i64 q.op, .int .i64 q.x, .int .i64 q.y, .int .i64 q.n, .slice an nn cn] 67) := ⟨_, rfl⟩
          have hszB : wB.heap.size = wA.heap.size + 1 := by rw [hwB]; simp
          rw [← hwB] at hGB hE ⊢
          replace t0 := hGB.cell t0 (by simp)
          replace t1 := hGB.cell t1 (by simp)
          replace t2 := hGB.cell t2 (by simp)
          replace t3 := hGB.cell t3 (by simp)
          replace t4 := hGB.cell t4 (by simp)
          replace t5 := hGB.cell t5 (by simp)
          have HE := Lib.hid hE
          have HGB := Lib.hid hGB
          have HSZB := Lib.hid hszB
          have hwOs : ∀ wz : World, True := fun _ => trivial
          clear hwB hE hGB c0 c1 c2 c3 c4 hg2 hszB hwOs
          go_wp2_with fail
          refine (cameFrom_any p gb a O _ (HGP.out.gr (HG2.out.trans0 HGB.out)) HV.out (by rw [← HL.out]; exact haL) (fun v => by rw [← HO.out]; exact HW64.out a v) (fun v h => by rw [← HO.out]; exact HW6.out a v h)).mono ?_
          rintro e w4 ⟨O3, he, hO64, hROW, hg4⟩
          rw [show words O3 = #[.int .u64 (O3 0 : Nat), .int .u64 (O3 1 : Nat), .int .u64 (O3 2 : Nat), .int .u64 (O3 3 : Nat), .int .u64 (O3 4 : Nat), .int .u64 (O3 5 : Nat)] from rfl] at he
          subst he
          have HO64 := Lib.hid hO64
          have HROW := Lib.hid (show ∀ b, rowW O3 b = true ↔ trkA p.types L val a (fun b => tb2 W2 a b = true) b from fun b => by
            have := hROW b
            rw [← HO.out, ← HL.out, HVV.out] at this
            exact this)
          have HG4 := Lib.hid (HGB.out.trans0 hg4)
          have hE4 : w4.heap[wA.heap.size]? = some (.cells #[.int .i64 q.op, .int .i64 q.x, .int .i64 q.y, .int .i64 q.n, .slice an nn cn] 67 (0, 0)) := by rw [hg4.block _ (lt_of_block HE.out) (by simp)]; exact HE.out
          have HE4 := Lib.hid hE4
          clear hO64 hROW hg4 hE4 t0 t1 t2 t3 t4 t5
          go_upto_region 9 with fail
          obtain ⟨w5, hw5⟩ : ∃ w5 : World, w5 = w4.alloc (.cells (words O3) 82) := ⟨_, rfl⟩
          have hw5' : w4.alloc (.cells #[.int .u64 (O3 0 : Nat), .int .u64 (O3 1 : Nat), .int .u64 (O3 2 : Nat), .int .u64 (O3 3 : Nat), .int .u64 (O3 4 : Nat), .int .u64 (O3 5 : Nat)] 82) = w5 := hw5.symm
          have hg45 : Gr w4 w5 none := by rw [hw5]; exact (Gr.refl _ _).alloc _
          have HW5 := Lib.hid (show Words w5 w4.heap.size O3 by rw [hw5]; exact heap1_0 _ _)
          have HGA5 := Lib.hid (HG4.out.trans0 hg45)
          have y4 : w5.cell? ⟨wA.heap.size, 4, none⟩ = some (.slice an nn cn) := hg45.cell (cell_of_row _ _ _ _ _ _ HE4.out) (by simp)
          have hgB2 : w.heap.size ≠ w4.heap.size := by have := HW2.out.lt; have := HG4.out.size; omega
          rw [hw5']
          clear hw5 hw5' hg45
          have hlw : w.heap.size < wA.heap.size := HW2.out.lt
          have HF5 := Lib.hid (HW2.out.gr0 HGA5.out)
          have hJ0 := HR.out.enterJ (trkA_mono HVL.out) HROW.out
          have HJ0 := Lib.hid (hJ0.mono (Q' := QV (nextOf L a) 0 0) (fun k b h _ => by
            rcases h with ⟨j', h1, _⟩ | ⟨h1, _⟩
            · omega
            · omega))
          have HG5 := Lib.hid (HG2.out.trans0 HGA5.out)
          clear hJ0
          go_wp2_with fail
          go_loopw [4, 39] (fun s i wq => ∃ (c : Bool) (W3 : Nat → Nat → Nat) (j : Nat), j ≤ nn ∧ s = .bool c ∧ i = .int .i64 j ∧ FwJ (boxL2 L.length) L (fun _ => False) (trkA p.types L val) (tb2 W) (tb2 W3) c a (rowW O3) (QV (nextOf L a) j 0) ∧ (∀ i v, W3 i v < 2 ^ 64) ∧ (∀ i v, 6 ≤ v → W3 i v = 0) ∧ FRow wq w.heap.size L.length W3 ∧ Gr w5 wq (some w.heap.size)) (fun _ i _ => nn - (intOf i).toNat)
          case atStart => exact ⟨c, W2, 0, Nat.zero_le _, rfl, rfl, HJ0.out, HW64.out, HW6.out, HF5.out, Gr.refl _ _⟩
          case round =>
            obtain ⟨c, W3, j, hj, rfl, rfl, hJ, h64, h6, hF, hgj⟩ := hrel
            have HJ := Lib.hid hJ
            have H64 := Lib.hid h64
            have H6 := Lib.hid h6
            have HF := Lib.hid hF
            have HGJ := Lib.hid hgj
            clear hJ h64 h6 hF
            by_cases hjn : j < nn
            · have hjq : j < q.next.length := by rw [HNN.out]; exact hjn
              obtain ⟨b6, o6, rfl, -, c6⟩ := (HIN.out.gr (HG5.out.weaken.trans HGJ.out (fun r e => .inl e)) (fun b o h => h)).at (i := j) (by rw [zs_length]; exact hjq)
              obtain ⟨kk, hkk⟩ : ∃ kk, q.next[j] = kk := ⟨_, rfl⟩
              have hzk : (zs q.next)[j]'(by rw [zs_length]; exact hjq) = (kk : Int) := by rw [← hkk]; simp [zs]
              rw [hzk] at c6
              have HX := Lib.hid (show (nextOf L a)[j]? = some kk by rw [HNQ.out, List.getElem?_eq_getElem hjq, hkk])
              have HKM := Lib.hid (show kk ∈ nextOf L a by rw [HNQ.out, ← hkk]; exact List.getElem_mem hjq)
              have hkL : kk < L.length := HNL.out kk (by rw [← hkk]; exact List.getElem_mem hjq)
              have hWj := HW5.out.gr hgj (by simpa using hgB2)
              have z0 := hWj.cell (v := 0) (by omega)
              have z1 := hWj.cell (v := 1) (by omega)
              have z2 := hWj.cell (v := 2) (by omega)
              have z3 := hWj.cell (v := 3) (by omega)
              have z4 := hWj.cell (v := 4) (by omega)
              have z5 := hWj.cell (v := 5) (by omega)
              clear hkk hzk hWj hgj
              go_wp2_with fail
              go_loopw [4, 44] (fun s i wq => ∃ (c : Bool) (W3 : Nat → Nat → Nat) (u : Nat), u ≤ 6 ∧ s = .bool c ∧ i = .int .i64 u ∧ FwJ (boxL2 L.length) L (fun _ => False) (trkA p.types L val) (tb2 W) (tb2 W3) c a (rowW O3) (QV (nextOf L a) j u) ∧ (∀ i v, W3 i v < 2 ^ 64) ∧ (∀ i v, 6 ≤ v → W3 i v = 0) ∧ FRow wq w.heap.size L.length W3 ∧ Gr w5 wq (some w.heap.size)) (fun _ i _ => 6 - (intOf i).toNat)
              case atStart => exact ⟨c, W3, 0, Nat.zero_le _, rfl, rfl, HJ.out, H64.out, H6.out, HF.out, HGJ.out⟩
              case round =>
                obtain ⟨c, W3, u, hu, rfl, rfl, hJ, h64, h6, hF, hgj⟩ := hrel
                have HJ := Lib.hid hJ
                have H64 := Lib.hid h64
                have H6 := Lib.hid h6
                have HF := Lib.hid hF
                have HGJ := Lib.hid hgj
                clear hJ h64 h6 hgj z0 z1 z2 z3 z4 z5 c6
                by_cases hu6 : u < 6
                · have e0 := hF.cell hkL hu6
                  have fz := hF.free (kk * 6 + u)
                  have hor : bits BinOp.or .u64 (W3 kk u : Nat) (O3 u : Nat) = ((W3 kk u ||| O3 u : Nat) : Int) := u64_or (H64.out kk u) (HO64.out u)
                  obtain ⟨X, hX⟩ : ∃ X, W3 kk u ||| O3 u = X := ⟨_, rfl⟩
                  obtain ⟨Y, hY⟩ : ∃ Y, W3 kk u = Y := ⟨_, rfl⟩
                  obtain ⟨Z, hZ⟩ : ∃ Z, O3 u = Z := ⟨_, rfl⟩
                  have hix : ∀ wz : World, (Instr.index 82 (.agg #[.int .u64 (O3 0 : Nat), .int .u64 (O3 1 : Nat), .int .u64 (O3 2 : Nat), .int .u64 (O3 3 : Nat), .int .u64 (O3 4 : Nat), .int .u64 (O3 5 : Nat)]) (.int .i64 u)).run Try.prog wz = .ok (.int .u64 (Z : Nat)) wz := fun wz => by rw [← hZ]; exact index_words O3 hu6 wz
                  rw [hX, hY, hZ] at hor
                  rw [hY] at e0
                  have HX2 := Lib.hid hX
                  have HY := Lib.hid hY
                  have HZ := Lib.hid hZ
                  clear hF hX hY hZ
                  go_wp2_with fail
                  go_cut [62] (fun s wx => s = .bool ((X : Int) != (Y : Int)) ∧ Gr wr wx none)
                  case first =>
--<RA
                    refine wp_region_held_drew (S := fun w' => Gr wr w' none) (by kernel_rfl) ((Gr.refl _ _).drew) (fun hHeld => ?_)
                    refine wpAnyH_take (i := 0) (v := ?_) rfl (by kernel_rfl) (by kernel_rfl) (by kernel_rfl) (fun _ _ _ h => h) (Or.inl ⟨by rfl, ?_⟩) hHeld ?_
                    rotate_left
                    focus (intro wq hq; clear hq; go_simp; try with_reducible rfl)
                    simp only [Act.put, List.getElem_toArray, List.getElem_cons_zero, List.setIfInBounds_toArray, List.set_cons_zero, List.set_cons_succ]
                    refine wpAnyH_take (i := 1) (v := ?_) rfl (by kernel_rfl) (by kernel_rfl) (by kernel_rfl) (fun _ _ _ h => h) (Or.inl ⟨by rfl, ?_⟩) hHeld ?_
                    rotate_left
                    focus (intro wq hq; clear hq; go_simp; try with_reducible rfl)
                    simp only [Act.put, List.getElem_toArray, List.getElem_cons_succ, List.getElem_cons_zero, List.setIfInBounds_toArray, List.set_cons_zero, List.set_cons_succ]
                    refine wpAnyH_take (i := 2) (v := ?_) rfl (by kernel_rfl) (by kernel_rfl) (by kernel_rfl) (fun _ _ _ h => h) (Or.inl ⟨by rfl, ?_⟩) hHeld ?_
                    rotate_left
                    focus (intro wq hq; clear hq; go_simp; try with_reducible rfl)
                    simp only [Act.put, List.getElem_toArray, List.getElem_cons_succ, List.getElem_cons_zero, List.setIfInBounds_toArray, List.set_cons_zero, List.set_cons_succ]
                    refine wpAnyH_take (i := 3) (v := ?_) rfl (by kernel_rfl) (by kernel_rfl) (by kernel_rfl) (fun _ _ _ h => h) (Or.inl ⟨by rfl, ?_⟩) hHeld ?_
                    rotate_left
                    focus (intro wq hq; clear hq; go_simp; try with_reducible rfl)
                    simp only [Act.put, List.getElem_toArray, List.getElem_cons_succ, List.getElem_cons_zero, List.setIfInBounds_toArray, List.set_cons_zero, List.set_cons_succ]
                    refine wpAnyH_take (i := 4) (v := ?_) rfl (by kernel_rfl) (by kernel_rfl) (by kernel_rfl) (fun _ _ _ h => h) (Or.inl ⟨by rfl, ?_⟩) hHeld ?_
                    rotate_left
                    focus (intro wq hq; clear hq; go_simp; try with_reducible rfl)
                    simp only [Act.put, List.getElem_toArray, List.getElem_cons_succ, List.getElem_cons_zero, List.setIfInBounds_toArray, List.set_cons_zero, List.set_cons_succ]
                    refine wpAnyH_take (i := 5) (v := ?_) rfl (by kernel_rfl) (by kernel_rfl) (by kernel_rfl) (fun _ _ _ h => h) (Or.inl ⟨by rfl, ?_⟩) hHeld ?_
                    rotate_left
                    focus (intro wq hq; have k0 := hq.cell e0 (by simp); go_simp; try with_reducible rfl)
                    simp only [Act.put, List.getElem_toArray, List.getElem_cons_succ, List.getElem_cons_zero, List.setIfInBounds_toArray, List.set_cons_zero, List.set_cons_succ]
                    refine wpAnyH_take (i := 6) (v := ?_) rfl (by kernel_rfl) (by kernel_rfl) (by kernel_rfl) (fun _ _ _ h => h) (Or.inl ⟨by rfl, ?_⟩) hHeld ?_
                    rotate_left
                    focus (intro wq hq; clear hq; go_simp; try with_reducible rfl)
                    simp only [Act.put, List.getElem_toArray, List.getElem_cons_succ, List.getElem_cons_zero, List.setIfInBounds_toArray, List.set_cons_zero, List.set_cons_succ]
                    refine wpAnyH_take (i := 7) (v := ?_) rfl (by kernel_rfl) (by kernel_rfl) (by kernel_rfl) (fun _ _ _ h => h) (Or.inl ⟨by rfl, ?_⟩) hHeld ?_
                    rotate_left
                    focus (intro wq hq; clear hq; go_simp; try with_reducible rfl)
                    simp only [Act.put, List.getElem_toArray, List.getElem_cons_succ, List.getElem_cons_zero, List.setIfInBounds_toArray, List.set_cons_zero, List.set_cons_succ]
                    refine wpAnyH_take (i := 8) (v := ?_) rfl (by kernel_rfl) (by kernel_rfl) (by kernel_rfl) (fun _ _ _ h => h) (Or.inl ⟨by rfl, ?_⟩) hHeld ?_
                    rotate_left
                    focus (intro wq hq; clear hq; go_simp; try with_reducible rfl)
                    simp only [Act.put, List.getElem_toArray, List.getElem_cons_succ, List.getElem_cons_zero, List.setIfInBounds_toArray, List.set_cons_zero, List.set_cons_succ]
                    refine wpAnyH_take (i := 9) (v := ?_) rfl (by kernel_rfl) (by kernel_rfl) (by kernel_rfl) (fun _ _ _ h => h) (Or.inl ⟨by rfl, ?_⟩) hHeld ?_
                    rotate_left
                    focus (intro wq hq; clear hq; go_simp; try with_reducible rfl)
                    simp only [Act.put, List.getElem_toArray, List.getElem_cons_succ, List.getElem_cons_zero, List.setIfInBounds_toArray, List.set_cons_zero, List.set_cons_succ]
                    refine wpAnyH_take (i := 10) (v := ?_) rfl (by kernel_rfl) (by kernel_rfl) (by kernel_rfl) (fun _ _ _ h => h) (Or.inl ⟨by rfl, ?_⟩) hHeld ?_
                    rotate_left
                    focus (intro wq hq; clear hq; go_simp; try with_reducible rfl)
                    simp only [Act.put, List.getElem_toArray, List.getElem_cons_succ, List.getElem_cons_zero, List.setIfInBounds_toArray, List.set_cons_zero, List.set_cons_succ]
                    refine wpAnyH_take (i := 11) (v := ?_) rfl (by kernel_rfl) (by kernel_rfl) (by kernel_rfl) (fun _ _ _ h => h) (Or.inl ⟨by rfl, ?_⟩) hHeld ?_
                    rotate_left
                    focus (intro wq hq; clear hq; go_simp; try with_reducible rfl)
                    simp only [Act.put, List.getElem_toArray, List.getElem_cons_succ, List.getElem_cons_zero, List.setIfInBounds_toArray, List.set_cons_zero, List.set_cons_succ]
                    refine wpAnyH_take (i := 12) (v := ?_) rfl (by kernel_rfl) (by kernel_rfl) (by kernel_rfl) (fun _ _ _ h => h) (Or.inl ⟨by rfl, ?_⟩) hHeld ?_
                    rotate_left
                    focus (intro wq hq; clear hq; go_simp; try with_reducible rfl)
                    simp only [Act.put, List.getElem_toArray, List.getElem_cons_succ, List.getElem_cons_zero, List.setIfInBounds_toArray, List.set_cons_zero, List.set_cons_succ]
                    refine wpAnyH_take (i := 13) (v := ?_) rfl (by kernel_rfl) (by kernel_rfl) (by kernel_rfl) (fun _ _ _ h => h) (Or.inl ⟨by rfl, ?_⟩) hHeld ?_
                    rotate_left
                    focus (intro wq hq; have k0 := hq.cell e0 (by simp); go_simp; try with_reducible rfl)
                    simp only [Act.put, List.getElem_toArray, List.getElem_cons_succ, List.getElem_cons_zero, List.setIfInBounds_toArray, List.set_cons_zero, List.set_cons_succ]
                    refine wpAnyH_take (i := 14) (v := ?_) rfl (by kernel_rfl) (by kernel_rfl) (by kernel_rfl) (fun _ _ _ h => h) (Or.inl ⟨by rfl, ?_⟩) hHeld ?_
                    rotate_left
                    focus (intro wq hq; clear hq; go_simp; try with_reducible rfl)
                    simp only [Act.put, List.getElem_toArray, List.getElem_cons_succ, List.getElem_cons_zero, List.setIfInBounds_toArray, List.set_cons_zero, List.set_cons_succ]
                    refine wpAnyH_done (by kernel_rfl) ?_ _
                    go_wp2_with fail
                    go_meet
                    exact ⟨rfl, hHeld⟩
--RA>
                  case rest =>
                    rename World => wx
                    obtain ⟨rfl, hgx⟩ := hcut
                    have f0 := hgx.cell e0 (by simp)
                    have fx := (HF.out.gr0 hgx).free (kk * 6 + u)
                    have HFX := Lib.hid (HF.out.gr0 hgx)
                    have HGX := Lib.hid (HGJ.out.trans0 hgx)
                    clear hgx e0 fz
                    by_cases he : X = Y
                    · have hc : ((X : Int) != (Y : Int)) = false := by simp [he]
                      have HN := Lib.hid (HJ.out.same (Q' := QV (nextOf L a) j (u + 1)) (QV.step HX.out (by rw [HX2.out, he, ← HY.out])))
                      clear he
                      go_wp2_with fail
                      go_roundw
                      case rel => exact ⟨c, W3, u + 1, by omega, rfl, by go_num, HN.out, H64.out, H6.out, HFX.out, HGX.out⟩
                      case measure => simp [intOf]; omega
                    · have hc : ((X : Int) != (Y : Int)) = true := by simp; omega
                      have HN := Lib.hid (show FwJ (boxL2 L.length) L (fun _ => False) (trkA p.types L val) (tb2 W) (tb2 (upd2 W3 kk u X)) true a (rowW O3) (QV (nextOf L a) j (u + 1)) from by
                        obtain ⟨k, hk, h1, h2⟩ := or_ne (H64.out kk u) (HO64.out u) (by rw [HX2.out, HY.out]; exact he)
                        rw [← HX2.out, tb2_or]
                        exact HJ.out.change (trkA_mono HVL.out) haL HKM.out (rowV_le hu6) (boxL2_mem hkL hu6 hk) (show rowV O3 u (u, k) = true by unfold rowV; simp [h1]) h2)
                      have HX64 := Lib.hid (show ∀ i v, upd2 W3 kk u X i v < 2 ^ 64 from upd2_lt H64.out (by rw [← HX2.out]; exact Nat.or_lt_two_pow (H64.out kk u) (HO64.out u)))
                      have HX6 := Lib.hid (show ∀ i v, 6 ≤ v → upd2 W3 kk u X i v = 0 from fun i v h => by unfold upd2; rw [if_neg (by omega)]; exact H6.out i v h)
                      have HFN2 := Lib.hid (fun (wz : World) (h : Gr wx wz none) => FRow.set (HFX.out.gr0 h) kk u X hu6)
                      clear he
                      go_upto_region 16 with fail
                      go_region
                      all_goals
                        go_wp2_with fail
                        go_roundw
                        case rel => exact ⟨true, upd2 W3 kk u X, u + 1, by omega, rfl, by go_num, HN.out, HX64.out, HX6.out, (HFN2.out _ (Gr.refl _ _)).gr0 (Gr.refl _ _).drew, (HGX.out.setOwn rfl _).drew⟩
                        case measure => simp [intOf]; omega
                · obtain rfl : u = 6 := by omega
                  go_wp2_with fail
                  go_roundw
                  case rel => exact ⟨c, W3, j + 1, by omega, rfl, by go_num, HJ.out.mono QV.next, H64.out, H6.out, HF.out, HGJ.out⟩
                  case measure => simp [intOf]; omega
            · obtain rfl : j = nn := by omega
              go_wp2_with fail
              go_roundw
              case rel => exact ⟨c, W3, a + 1, by omega, rfl, by go_num, HJ.out.exit (fun k hk b _ => QV.exit (by rw [HNQ.out, HNN.out]; exact Nat.le_refl _) k hk b), H64.out, H6.out, HF.out, HG5.out.trans HGJ.out (fun r e => .inr (by cases e; exact Nat.le_refl _))⟩
              case measure => simp [intOf]; omega
        · obtain rfl : a = L.length := by omega
          go_wp2_with fail
          go_roundg (leftG (boxL2 L.length) (tb2 W2) c)
          case measure => exact HR.out.left
          case rel => exact ⟨c, W2, rfl, rfl, HR.out.done (Nat.le_refl _), HW64.out, HW6.out, HW2.out, HG2.out⟩
end Go.Proofs.Ytadlnjglpigjmaa

namespace Go.Proofs.Ytadlnjglpigjmaa

open Go.RowKit

/-! ### Which loans are placed -/

def yN (L : List Pt) (k : Nat) : Nat := (ptAt L k).y.toNat
/-- Is k a loan from a variable that the point i takes or sets? -/
def lostB (T : List Int) (L : List Pt) (i k : Nat) : Bool := lnB L k && (tkL T L i (yN L k) || stL L i (yN L k))
def plA (T : List Int) (L : List Pt) (i : Nat) (Y : Nat → Prop) (k : Nat) : Prop := (lnB L i = true ∧ k = i) ∨ (Y k ∧ (k < L.length → lostB T L i k = false))
theorem plA_mono (T : List Int) (L : List Pt) : MonoA (plA T L) := by
  rintro i Y Z h k (hk | ⟨h1, h2⟩)
  · exact .inl hk
  · exact .inr ⟨h k h1, h2⟩
open Classical in

noncomputable def plB (p : Pr) (i k : Nat) : Bool := decide (Least (FwS (pts p) (fun _ => False) (plA p.types (pts p))) i k)
theorem plB_iff {p : Pr} {i k : Nat} : plB p i k = true ↔ Least (FwS (pts p) (fun _ => False) (plA p.types (pts p))) i k := by unfold plB; simp
theorem plB_lt {p : Pr} {i k : Nat} (h : plB p i k = true) : k < (pts p).length := by
  have := (plB_iff.1 h) (fun _ k => k < (pts p).length) (by
    rintro i k (⟨_, hb⟩ | ⟨j, hj, hn, hb⟩)
    · exact hb.elim
    · rcases hb with ⟨_, rfl⟩ | hb
      · exact hj
      · exact hb.1)
  exact this
/-- A list of words. -/
def URow (w : World) (g n : Nat) (O : Nat → Nat) : Prop := ∃ arr : Array Value, w.heap[g]? = some (.cells arr 80 (0, 0)) ∧ arr.size = n ∧ ∀ j, j < n → arr[j]? = some (.int .u64 (O j : Nat))
theorem URow.cell {w : World} {g n : Nat} {O : Nat → Nat} (h : URow w g n O) {j : Nat} (hj : j < n) : w.cell? ⟨g, j, none⟩ = some (.int .u64 (O j : Nat)) := by
  obtain ⟨arr, h1, _, h3⟩ := h
  rw [cell_of_row w g j _ _ _ h1]; exact h3 j hj
theorem URow.free {w : World} {g n : Nat} {O : Nat → Nat} (h : URow w g n O) (j : Nat) : w.frozen? ⟨g, j, none⟩ = false := by
  obtain ⟨arr, h1, _⟩ := h
  simp [World.frozen?, h1]
theorem URow.lt {w : World} {g n : Nat} {O : Nat → Nat} (h : URow w g n O) : g < w.heap.size := by
  obtain ⟨arr, h1, _⟩ := h
  exact lt_of_block h1
theorem URow.gr {w w' : World} {g n : Nat} {O : Nat → Nat} {row : Option Nat} (h : URow w g n O) (hg : Gr w w' row) (hr : row ≠ some g) : URow w' g n O := by
  have hlt := h.lt
  obtain ⟨arr, h1, h2⟩ := h
  exact ⟨arr, by rw [hg.block g hlt (fun e => hr e.symm)]; exact h1, h2⟩
theorem URow.gr0 {w w' : World} {g n : Nat} {O : Nat → Nat} (h : URow w g n O) (hg : Gr w w' none) : URow w' g n O := h.gr hg (by simp)
theorem URow.upd {w : World} {g n : Nat} {O : Nat → Nat} (h : URow w g n O) (k x : Nat) : URow (w.setCell ⟨g, k, none⟩ (.int .u64 (x : Nat))) g n (updW O k x) := by
  obtain ⟨arr, h1, h2, h3⟩ := h
  refine ⟨_, row_set _ h1, by simpa using h2, fun j hj => ?_⟩
  unfold updW
  by_cases e : j = k
  · subst e
    rw [if_pos rfl, Array.getElem?_setIfInBounds_self, if_pos (by omega)]
  · rw [if_neg e, Array.getElem?_setIfInBounds_ne (fun h => e h.symm), h3 j hj]
theorem URow.new (w : World) (n : Nat) : URow (w.alloc (.cells (madeCells #[.int .u64 0] n) 80)) w.heap.size n (fun _ => 0) := by
  refine ⟨_, heap1_0 _ _, by simp [madeCells], fun j hj => ?_⟩
  rw [← Array.getElem?_toList, toList_madeCells_one, List.getElem?_replicate, if_pos hj]; rfl
theorem UInfo : (Try.prog.info? 80).map (fun i => (i.zero, i.size, i.bytes)) = some (some (.int .u64 0), 1, 8) := by kernel_rfl
def ofB (L : List Pt) (V : Nat) (k : Nat) : Bool := decide (k < L.length) && (lnB L k && V.testBit (yN L k))
theorem of_step {f : Nat → Bool} {W k : Nat} (hW : ∀ v, W.testBit v = (decide (v < k) && f v)) (hf : f k = true) (v : Nat) : (W ||| 2 ^ k).testBit v = (decide (v < k + 1) && f v) := or_step hW hf v
set_option maxRecDepth 100000 in
set_option maxHeartbeats 4000000 in
theorem ofVars_any (p : Pr) (gb V : Nat) (w : World) (hGA : GraphAt w p gb) (hv : validP p = true) (hV : V < 2 ^ 6) :
    Calls Try.prog 115 #[.pointer (some ⟨gb, 0, none⟩), .int .i64 V] w fun e w' => ∃ W : Nat, e = .returned (.int .u64 (W : Nat)) ∧ W < 2 ^ 64 ∧ (∀ k, W.testBit k = ofB (pts p) V k) ∧ Gr w w' none := by
  have hl : (pts p).length ≤ 61 := pts_len hv
  have HGP := Lib.hid hGA
  have HY := Lib.hid (fun k (hk : k < (pts p).length) q (hq : ptAt (pts p) k = q) => pt_y45 hv hk hq)
  have h6 := valid_types hv
  obtain ⟨L, a3, n3, a4, n4, al, cl, hL, d0, d1, d2, hr1, hr2, hr3⟩ := hGA
  rw [← hL] at hl HY ⊢
  have HR3 := Lib.hid hr3
  obtain ⟨n, hn⟩ : ∃ n, L.length = n := ⟨_, rfl⟩
  have HN := Lib.hid hn
  rw [hn] at hl d2
  have HD2 := Lib.hid d2
  clear hL d0 d1 hr1 hr2 hr3 hv hn
  go_enter Try.func115, Try.ntmps115
  go_wp2_with fail
  go_loopw [5, 13] (fun s i wr => ∃ k W : Nat, k ≤ n ∧ i = .int .i64 k ∧ s = .int .u64 (W : Nat) ∧ (∀ v, W.testBit v = (decide (v < k) && (lnB L v && V.testBit (yN L v)))) ∧ Gr w wr none) (fun _ i _ => n - (intOf i).toNat)
  case atStart => exact ⟨0, 0, Nat.zero_le _, rfl, rfl, fun v => by simp, Gr.refl _ _⟩
  case round =>
    obtain ⟨k, W, hk, rfl, rfl, hW, hg⟩ := hrel
    have hWk : W < 2 ^ k := bits_upto hW
    have hW64 : W < 2 ^ 61 := Nat.lt_of_lt_of_le hWk (Nat.pow_le_pow_right (by omega) (by omega))
    have HW := Lib.hid hW
    have HG := Lib.hid hg
    clear hW hWk d2
    by_cases hlt : k < n
    · have d2 := hg.cell HD2.out (by simp)
      have hkL : k < L.length := by rw [HN.out]; exact hlt
      obtain ⟨b, po, rfl, an, cn, c0, c1, c2, c3, c4, -, -⟩ := HR3.out k hkL
      replace c0 := hg.cell c0 (by simp)
      replace c1 := hg.cell c1 (by simp)
      replace c2 := hg.cell c2 (by simp)
      replace c3 := hg.cell c3 (by simp)
      replace c4 := hg.cell c4 (by simp)
      obtain ⟨q, eq⟩ : ∃ q, L[k] = q := ⟨_, rfl⟩
      rw [eq] at c0 c1 c2 c3 c4
      obtain ⟨nn, hnn⟩ : ∃ nn, q.next.length = nn := ⟨_, rfl⟩
      rw [hnn] at c4
      have hpa : ptAt L k = q := (ptAt_get hkL).trans eq
      have HPA := Lib.hid hpa
      have hy := HY.out k hkL q hpa
      clear eq hnn hpa hg
      go_upto_region 5 with fail
      have hE := heap1_0 wr (.cells #[.int .i64 q.op, .int .i64 q.x, .int .i64 q.y, .int .i64 q.n, .slice an nn cn] 67)
      obtain ⟨wB, hwB⟩ : ∃ wB, wB = wr.alloc (.cells #[.int .i64 q.op, .int .i64 q.x, .int .i64 q.y, .int .i64 q.n, .slice an nn cn] 67) := ⟨_, rfl⟩
      have hgB : Gr wr wB none := by rw [hwB]; exact (Gr.refl _ _).alloc _
      rw [← hwB] at hE ⊢
      have x0 : wB.cell? ⟨wr.heap.size, 0, none⟩ = some (.int .i64 q.op) := cell_of_row _ _ _ _ _ _ hE
      have x1 : wB.cell? ⟨wr.heap.size, 1, none⟩ = some (.int .i64 q.x) := cell_of_row _ _ _ _ _ _ hE
      have x2 : wB.cell? ⟨wr.heap.size, 2, none⟩ = some (.int .i64 q.y) := cell_of_row _ _ _ _ _ _ hE
      have x3 : wB.cell? ⟨wr.heap.size, 3, none⟩ = some (.int .i64 q.n) := cell_of_row _ _ _ _ _ _ hE
      have x4 : wB.cell? ⟨wr.heap.size, 4, none⟩ = some (.slice an nn cn) := cell_of_row _ _ _ _ _ _ hE
      have HGB := Lib.hid (HG.out.trans0 hgB)
      clear hwB hE hgB c0 c1 c2 c3 c4 d2
      go_wp2_with fail
      refine (isLoan_any q.op q.x q.y q.n (.slice an nn cn) _).mono ?_
      obtain ⟨lb, hlb⟩ : ∃ lb, (q.op == 4 || q.op == 5) = lb := ⟨_, rfl⟩
      rw [hlb]
      rintro e w5 ⟨rfl, hg5⟩
      have HLB := Lib.hid (show lnB L k = lb by unfold lnB; rw [HPA.out]; exact hlb)
      have HG5 := Lib.hid (HGB.out.trans0 hg5)
      replace x2 := hg5.cell x2 (by simp)
      clear hg5 x0 x1 x3 x4
      cases lb with
      | false =>
        have HN2 := Lib.hid (no_step (f := fun v => lnB L v && V.testBit (yN L v)) HW.out (by rw [HLB.out]; rfl))
        clear hlb hy
        go_wp2_with fail
        go_roundw
        case rel => exact ⟨k + 1, W, by omega, by go_num, rfl, HN2.out, HG5.out⟩
        case measure => simp [intOf]; omega
      | true =>
        obtain ⟨j, hyj, hjl⟩ := hy (by simp at hlb; omega)
        rw [hyj] at x2
        have hj6 : j < 6 := by omega
        have HYN := Lib.hid (show yN L k = j by unfold yN; rw [HPA.out, hyj]; rfl)
        have hsh : (V : Int) / 2 ^ j = ((V / 2 ^ j : Nat) : Int) := by simp
        have hbit0 : bits BinOp.and IntKind.i64 (((V / 2 ^ j : Nat) : Int)) 1 = if V.testBit j then 1 else 0 := i64_bit (by omega)
        obtain ⟨d, hd⟩ : ∃ d, V / 2 ^ j = d := ⟨_, rfl⟩
        rw [hd] at hsh hbit0
        obtain ⟨mb, hmb⟩ : ∃ mb, V.testBit j = mb := ⟨_, rfl⟩
        rw [hmb] at hbit0
        have HMB := Lib.hid hmb
        clear hd hmb hlb hy hyj
        cases mb with
        | false =>
          rw [if_neg (by simp)] at hbit0
          have HN2 := Lib.hid (no_step (f := fun v => lnB L v && V.testBit (yN L v)) HW.out (by rw [HYN.out, HMB.out, Bool.and_false]))
          go_wp2_with fail
          go_roundw
          case rel => exact ⟨k + 1, W, by omega, by go_num, rfl, HN2.out, HG5.out⟩
          case measure => simp [intOf]; omega
        | true =>
          rw [if_pos rfl] at hbit0
          have HN2 := Lib.hid (or_step (f := fun v => lnB L v && V.testBit (yN L v)) HW.out (by rw [HLB.out, HYN.out, HMB.out]; rfl))
          have hpw : IntKind.u64.wrap ((2 : Int) ^ k) = ((2 ^ k : Nat) : Int) := u64_pow (by omega)
          have hp64 : 2 ^ k < 2 ^ 64 := Nat.pow_lt_pow_right (by omega) (by omega)
          have hor : bits BinOp.or .u64 (W : Nat) (2 ^ k : Nat) = ((W ||| 2 ^ k : Nat) : Int) := u64_or (by omega) hp64
          obtain ⟨P, hP⟩ : ∃ P, 2 ^ k = P := ⟨_, rfl⟩
          rw [hP] at hpw hor HN2
          obtain ⟨W', hW'⟩ : ∃ W', W ||| P = W' := ⟨_, rfl⟩
          rw [hW'] at hor HN2
          clear hP hW' hp64
          go_wp2_with fail
          go_roundw
          case rel => exact ⟨k + 1, W', by omega, by go_num, rfl, HN2.out, HG5.out⟩
          case measure => simp [intOf]; omega
    · obtain rfl : k = n := by omega
      go_wp2_with fail
      go_ret
      exact ⟨W, rfl, by omega, fun v => by rw [HW.out]; unfold ofB; rw [HN.out], HG.out⟩
def Placed (p : Pr) (w : World) (e : Ending) (w' : World) : Prop := ∃ (g : Nat) (O : Nat → Nat), e = .returned (.slice (some ⟨g, 0, none⟩) (pts p).length (pts p).length) ∧ URow w' g (pts p).length O ∧ (∀ j, O j < 2 ^ 64) ∧ (∀ i k, (O i).testBit k = plB p i k) ∧ Gr w w' none
theorem pl_row {T : List Int} {L : List Pt} {a S X : Nat} {q : Pt} (hq : ptAt L a = q) {V : Nat} (hV : ∀ v, V.testBit v = (takesB T q.op q.x q.y v || setsB q.op q.x v)) (hS : ∀ k, S.testBit k = (X.testBit k && !ofB L V k)) {S' : Nat} (hS' : ∀ k, S'.testBit k = (S.testBit k || (lnB L a && decide (k = a)))) (k : Nat) : S'.testBit k = true ↔ plA T L a (fun k => X.testBit k = true) k := by
  have ho : ofB L V k = (decide (k < L.length) && lostB T L a k) := by
    unfold ofB lostB tkL stL
    rw [hV, hq]
  rw [hS', hS, ho]
  show _ ↔ ((lnB L a = true ∧ k = a) ∨ (X.testBit k = true ∧ (k < L.length → lostB T L a k = false)))
  by_cases hk : k < L.length
  · rw [decide_eq_true hk]
    by_cases e : k = a
    · subst e
      cases lnB L k <;> cases X.testBit k <;> cases lostB T L k k <;> simp [hk]
    · cases lnB L a <;> cases X.testBit k <;> cases lostB T L a k <;> simp [hk, e]
  · rw [decide_eq_false hk]
    by_cases e : k = a
    · subst e
      cases lnB L k <;> cases X.testBit k <;> simp [hk]
    · cases lnB L a <;> cases X.testBit k <;> simp [hk, e]
set_option maxRecDepth 100000 in
set_option maxHeartbeats 8000000 in
theorem placed_any (p : Pr) (gb : Nat) (w : World) (hGA : GraphAt w p gb) (hv : validP p = true) :
    Calls Try.prog 85 #[.pointer (some ⟨gb, 0, none⟩)] w (Placed p w) := by
  have hp : p.types.length ≤ 6 := valid_types hv
  have hl : (pts p).length ≤ 61 := pts_len hv
  have HST := Lib.hid (fun k (hk : k < (pts p).length) => set_in hv hk)
  have HGP := Lib.hid hGA
  have HV := Lib.hid hv
  have HNX := Lib.hid (pts_next p)
  obtain ⟨L, a3, n3, a4, n4, al, cl, hL, d0, d1, d2, hr1, hr2, hr3⟩ := hGA
  unfold Placed
  have HL := Lib.hid hL
  rw [← hL] at hl HST HNX ⊢
  have HR3 := Lib.hid hr3
  have HD2 := Lib.hid d2
  clear hL d0 d1 hr1 hr2 hr3 hv
  have hmk := fun w : World => run_make_row' (P := Try.prog) 94 80 (.int .u64 0) 8 Try.underlying94 UInfo rfl .i64 .i64 L.length (by omega) (by omega) w
  go_enter Try.func85, Try.ntmps85
  go_wp2_with fail
  have hW0 := URow.new w L.length
  have hG0 : Gr w (w.alloc (.cells (madeCells #[.int .u64 0] L.length) 80)) none := (Gr.refl _ _).alloc _
  have HFw0 := Lib.hid (show FwOk L (fun _ => False) (plA p.types L) (tb fun _ => 0) from ⟨fun i b h => by unfold tb at h; simp at h, fun b h => h.elim⟩)
  clear hmk
  go_loopg [4] (leftG (boxL L.length 64) (tb fun _ => 0) true) (fun gh s wr => ∃ (c : Bool) (O : Nat → Nat), gh = leftG (boxL L.length 64) (tb O) c ∧ s = .bool c ∧ FwA L (fun _ => False) (plA p.types L) (tb O) c ∧ (∀ j, O j < 2 ^ 64) ∧ URow wr w.heap.size L.length O ∧ Gr w wr none)
  case atStart => exact ⟨true, fun _ => 0, rfl, rfl, FwA.start HFw0.out, (fun _ => by simp), hW0, hG0⟩
  case round =>
    obtain ⟨c, O, rfl, rfl, hA, hO64, hW, hg⟩ := hrel
    clear hW0 hG0
    have HA := Lib.hid hA
    have HO64 := Lib.hid hO64
    have HW := Lib.hid hW
    have HG := Lib.hid hg
    clear hA hO64 hW
    cases c with
    | false =>
      go_wp2_with fail
      go_ret
      exact ⟨_, O, rfl, HW.out, HO64.out, fun i b => by rw [Bool.eq_iff_iff, plB_iff, ← HL.out]; exact HA.out.2 rfl i b, HG.out⟩
    | true =>
      replace d2 := hg.cell HD2.out (by simp)
      clear hg
      go_wp2_with fail
      go_loopw [4, 22] (fun s i wq => ∃ (c : Bool) (O2 : Nat → Nat) (a : Nat), a ≤ L.length ∧ s = .bool c ∧ i = .int .i64 a ∧ FwR (boxL L.length 64) L (fun _ => False) (plA p.types L) (tb O) (tb O2) c a ∧ (∀ j, O2 j < 2 ^ 64) ∧ URow wq w.heap.size L.length O2 ∧ Gr w wq none) (fun _ i _ => L.length - (intOf i).toNat)
      case atStart => exact ⟨false, O, 0, Nat.zero_le _, rfl, rfl, FwR.start HA.out.1, HO64.out, HW.out, HG.out⟩
      case round =>
        obtain ⟨c, O2, a, ha, rfl, rfl, hR, hO64, hW2, hg2⟩ := hrel
        rename World => wA
        have HR := Lib.hid hR
        have HO2 := Lib.hid hO64
        have HW2 := Lib.hid hW2
        have HG2 := Lib.hid hg2
        clear hR hO64 d2
        by_cases haL : a < L.length
        · obtain ⟨b, po, rfl, an, cn, c0, c1, c2, c3, c4, hin, -⟩ := HR3.out a haL
          replace c0 := hg2.cell c0 (by simp)
          replace c1 := hg2.cell c1 (by simp)
          replace c2 := hg2.cell c2 (by simp)
          replace c3 := hg2.cell c3 (by simp)
          replace c4 := hg2.cell c4 (by simp)
          obtain ⟨q, eq⟩ : ∃ q, L[a] = q := ⟨_, rfl⟩
          have hnq : nextOf L a = q.next := by rw [nextOf_get haL, eq]
          rw [eq] at c0 c1 c2 c3 c4 hin
          have hpa : ptAt L a = q := (ptAt_get haL).trans eq
          have hst := HST.out a haL
          rw [eq] at hst
          have HPA := Lib.hid hpa
          have HS1 := Lib.hid (show setOf q.op q.x < 6 by omega)
          have HS0 := Lib.hid hst.1
          have HNQ := Lib.hid hnq
          have hnx := (HNX.out a haL)
          rw [hnq] at hnx
          have HNL := Lib.hid hnx.2
          obtain ⟨nn, hnn⟩ : ∃ nn, q.next.length = nn := ⟨_, rfl⟩
          rw [hnn] at c4 hnx
          have hnn2 : nn ≤ 2 := hnx.1
          have HNN := Lib.hid hnn
          have HIN := Lib.hid (hin.old (Nat.le_refl w.heap.size))
          have ca := hW2.cell haL
          obtain ⟨X, hX⟩ : ∃ X, O2 a = X := ⟨_, rfl⟩
          rw [hX] at ca
          have hX64 : X < 2 ^ 64 := by rw [← hX]; exact HO2.out a
          have HX := Lib.hid hX
          have HX64 := Lib.hid hX64
          clear eq hnq hpa hst hnx hnn hin hX hW2 hX64
          go_upto_region 8 with fail
          have hE := heap1_0 wA (.cells #[.int .i64 q.op, .int .i64 q.x, .int .i64 q.y, .int .i64 q.n, .slice an nn cn] 67)
          obtain ⟨wB, hwB⟩ : ∃ wB, wB = wA.alloc (.cells #[.int .i64 q.op, .int .i64 q.x, .int .i64 q.y, .int .i64 q.n, .slice an nn cn] 67) := ⟨_, rfl⟩
          have hgB : Gr wA wB none := by rw [hwB]; exact (Gr.refl _ _).alloc _
          rw [← hwB] at hE ⊢
          replace ca := hgB.cell ca (by simp)
          have x0 : wB.cell? ⟨wA.heap.size, 0, none⟩ = some (.int .i64 q.op) := cell_of_row _ _ _ _ _ _ hE
          have x1 : wB.cell? ⟨wA.heap.size, 1, none⟩ = some (.int .i64 q.x) := cell_of_row _ _ _ _ _ _ hE
          have x2 : wB.cell? ⟨wA.heap.size, 2, none⟩ = some (.int .i64 q.y) := cell_of_row _ _ _ _ _ _ hE
          have x3 : wB.cell? ⟨wA.heap.size, 3, none⟩ = some (.int .i64 q.n) := cell_of_row _ _ _ _ _ _ hE
          have x4 : wB.cell? ⟨wA.heap.size, 4, none⟩ = some (.slice an nn cn) := cell_of_row _ _ _ _ _ _ hE
          have HGB := Lib.hid (HG2.out.trans0 hgB)
          have HWB := Lib.hid (HW2.out.gr0 hgB)
          clear hwB hE hgB c0 c1 c2 c3 c4 hg2
          go_cut [7] (fun s wx => ∃ S V : Nat, s = .int .u64 (S : Nat) ∧ S < 2 ^ 64 ∧ (∀ v, V.testBit v = (takesB p.types q.op q.x q.y v || setsB q.op q.x v)) ∧ (∀ k, S.testBit k = (X.testBit k && !ofB L V k)) ∧ Gr wB wx none)
          case first =>
--<RB
            refine wp_region_held_drew (S := fun w' => Gr wB w' none) (by kernel_rfl) ((Gr.refl _ _).drew) (fun hHeld => ?_)
            refine wpAnyH_take (i := 0) (v := ?_) rfl (by kernel_rfl) (by kernel_rfl) (by kernel_rfl) (fun _ _ _ h => h) (Or.inl ⟨by rfl, ?_⟩) hHeld ?_
            rotate_left
            focus (intro wq hq; clear hq; go_simp; try with_reducible rfl)
            simp only [Act.put, List.getElem_toArray, List.getElem_cons_zero, List.setIfInBounds_toArray, List.set_cons_zero, List.set_cons_succ]
            refine wpAnyH_take (i := 1) (v := ?_) rfl (by kernel_rfl) (by kernel_rfl) (by kernel_rfl) (fun _ _ _ h => h) (Or.inl ⟨by rfl, ?_⟩) hHeld ?_
            rotate_left
            focus (intro wq hq; clear hq; go_simp; try with_reducible rfl)
            simp only [Act.put, List.getElem_toArray, List.getElem_cons_succ, List.getElem_cons_zero, List.setIfInBounds_toArray, List.set_cons_zero, List.set_cons_succ]
            refine wpAnyH_take (i := 2) (v := ?_) rfl (by kernel_rfl) (by kernel_rfl) (by kernel_rfl) (fun _ _ _ h => h) (Or.inl ⟨by rfl, ?_⟩) hHeld ?_
            rotate_left
            focus (intro wq hq; clear hq; go_simp; try with_reducible rfl)
            simp only [Act.put, List.getElem_toArray, List.getElem_cons_succ, List.getElem_cons_zero, List.setIfInBounds_toArray, List.set_cons_zero, List.set_cons_succ]
            refine wpAnyH_take (i := 3) (v := ?_) rfl (by kernel_rfl) (by kernel_rfl) (by kernel_rfl) (fun _ _ _ h => h) (Or.inl ⟨by rfl, ?_⟩) hHeld ?_
            rotate_left
            focus (intro wq hq; have k0 := hq.cell ca (by simp); go_simp; try with_reducible rfl)
            simp only [Act.put, List.getElem_toArray, List.getElem_cons_succ, List.getElem_cons_zero, List.setIfInBounds_toArray, List.set_cons_zero, List.set_cons_succ]
            refine wpAnyH_take (i := 4) (v := ?_) rfl (by kernel_rfl) (by kernel_rfl) (by kernel_rfl) (fun _ _ _ h => h) (Or.inl ⟨by rfl, ?_⟩) hHeld ?_
            rotate_left
            focus (intro wq hq; clear hq; go_simp; try with_reducible rfl)
            simp only [Act.put, List.getElem_toArray, List.getElem_cons_succ, List.getElem_cons_zero, List.setIfInBounds_toArray, List.set_cons_zero, List.set_cons_succ]
            refine wpAnyH_take (i := 5) (v := ?_) rfl (by kernel_rfl) (by kernel_rfl) (by kernel_rfl) (fun _ _ _ h => h) (Or.inl ⟨by rfl, ?_⟩) hHeld ?_
            rotate_left
            focus (intro wq hq; clear hq; go_simp; try with_reducible rfl)
            simp only [Act.put, List.getElem_toArray, List.getElem_cons_succ, List.getElem_cons_zero, List.setIfInBounds_toArray, List.set_cons_zero, List.set_cons_succ]
            refine wpAnyH_take (i := 6) (v := ?_) rfl (by kernel_rfl) (by kernel_rfl) (by kernel_rfl) (fun _ _ _ h => h) (Or.inl ⟨by rfl, ?_⟩) hHeld ?_
            rotate_left
            focus (intro wq hq; have k0 := hq.cell x0 (by simp); have k1 := hq.cell x1 (by simp); have k2 := hq.cell x2 (by simp); have k3 := hq.cell x3 (by simp); have k4 := hq.cell x4 (by simp); go_simp; try with_reducible rfl)
            simp only [Act.put, List.getElem_toArray, List.getElem_cons_succ, List.getElem_cons_zero, List.setIfInBounds_toArray, List.set_cons_zero, List.set_cons_succ]
            refine wpAnyH_take (i := 8) (v := ?_) rfl (by kernel_rfl) (by kernel_rfl) (by kernel_rfl) (fun _ _ _ h => h) (Or.inl ⟨by rfl, ?_⟩) hHeld ?_
            rotate_left
            focus (intro wq hq; have k0 := hq.cell x0 (by simp); have k1 := hq.cell x1 (by simp); have k2 := hq.cell x2 (by simp); have k3 := hq.cell x3 (by simp); have k4 := hq.cell x4 (by simp); go_simp; try with_reducible rfl)
            simp only [Act.put, List.getElem_toArray, List.getElem_cons_succ, List.getElem_cons_zero, List.setIfInBounds_toArray, List.set_cons_zero, List.set_cons_succ]
            refine wpAnyH_ready (rs := [7]) (by kernel_rfl) (by simp) ?_
            refine AllReadyH.cons rfl (fun K hK => ?_) AllReadyH.nil
            go_simp
            refine (taken_any p gb q.op q.x q.y q.n (.slice an nn cn) _ (HGP.out.gr (HGB.out.trans0 hHeld)) hp).mono ?_
            rintro e w6 ⟨W1, rfl, hW1, hl1, hg6⟩
            have HW1 := Lib.hid hW1
            clear hW1
            try dsimp only
            refine hK.out _ _ (hHeld.trans0 hg6) (fun hHeld => ?_)
            clear hK K
            try simp only [Act.put, List.getElem_toArray, List.getElem_cons_succ, List.getElem_cons_zero, List.setIfInBounds_toArray, List.set_cons_zero, List.set_cons_succ]
            refine wpAnyH_ready (rs := [9]) (by kernel_rfl) (by simp) ?_
            refine AllReadyH.cons rfl (fun K hK => ?_) AllReadyH.nil
            go_simp
            refine (setBit_any q.op q.x q.y q.n (.slice an nn cn) _ HS1.out HS0.out).mono ?_
            rintro e w7 ⟨W3, rfl, hW3, hl3, hg7⟩
            have HW3 := Lib.hid hW3
            clear hW3
            try dsimp only
            refine hK.out _ _ (hHeld.trans0 hg7) (fun hHeld => ?_)
            clear hK K
            try simp only [Act.put, List.getElem_toArray, List.getElem_cons_succ, List.getElem_cons_zero, List.setIfInBounds_toArray, List.set_cons_zero, List.set_cons_succ]
            refine wpAnyH_take (i := 10) (v := ?_) rfl (by kernel_rfl) (by kernel_rfl) (by kernel_rfl) (fun _ _ _ h => h) (Or.inl ⟨by rfl, ?_⟩) hHeld ?_
            rotate_left
            focus (intro wq hq; have hor := i64_or (a := W1) (b := W3) (by omega) (by omega); go_simp; try with_reducible rfl)
            simp only [Act.put, List.getElem_toArray, List.getElem_cons_succ, List.getElem_cons_zero, List.setIfInBounds_toArray, List.set_cons_zero, List.set_cons_succ]
            refine wpAnyH_ready (rs := [11]) (by kernel_rfl) (by simp) ?_
            refine AllReadyH.cons rfl (fun K hK => ?_) AllReadyH.nil
            go_simp
            refine (ofVars_any p gb (W1 ||| W3) _ (HGP.out.gr (HGB.out.trans0 hHeld)) HV.out (Nat.or_lt_two_pow hl1 hl3)).mono ?_
            rintro e w8 ⟨W4, rfl, hW4, hWb, hg8⟩
            have HWB4 := Lib.hid hWb
            clear hWb
            try dsimp only
            refine hK.out _ _ (hHeld.trans0 hg8) (fun hHeld => ?_)
            clear hK K
            try simp only [Act.put, List.getElem_toArray, List.getElem_cons_succ, List.getElem_cons_zero, List.setIfInBounds_toArray, List.set_cons_zero, List.set_cons_succ]
            refine wpAnyH_take (i := 12) (v := ?_) rfl (by kernel_rfl) (by kernel_rfl) (by kernel_rfl) (fun _ _ _ h => h) (Or.inl ⟨by rfl, ?_⟩) hHeld ?_
            rotate_left
            focus (intro wq hq; have hnd := u64_andNot (a := X) (b := W4) HX64.out; go_simp; try with_reducible rfl)
            simp only [Act.put, List.getElem_toArray, List.getElem_cons_succ, List.getElem_cons_zero, List.setIfInBounds_toArray, List.set_cons_zero, List.set_cons_succ]
            refine wpAnyH_take (i := 13) (v := ?_) rfl (by kernel_rfl) (by kernel_rfl) (by kernel_rfl) (fun _ _ _ h => h) (Or.inl ⟨by rfl, ?_⟩) hHeld ?_
            rotate_left
            focus (intro wq hq; clear hq; go_simp; try with_reducible rfl)
            simp only [Act.put, List.getElem_toArray, List.getElem_cons_succ, List.getElem_cons_zero, List.setIfInBounds_toArray, List.set_cons_zero, List.set_cons_succ]
            refine wpAnyH_done (by kernel_rfl) ?_ _
            go_wp2_with fail
            go_meet
            exact ⟨ndiff X W4, W1 ||| W3, rfl, ndiff_lt HX64.out, fun v => by rw [Nat.testBit_or, HW1.out, HW3.out], fun k => by rw [ndiff_bit, HWB4.out, HL.out], hHeld⟩
--RB>
          case rest =>
          rename World => wx
          obtain ⟨S, V, rfl, hS64, hVb, hSb, hgx⟩ := hcut
          have HVB := Lib.hid hVb
          have HSB := Lib.hid hSb
          have HGX := Lib.hid (HGB.out.trans0 hgx)
          have HWX := Lib.hid (HWB.out.gr0 hgx)
          replace x0 := hgx.cell x0 (by simp)
          replace x1 := hgx.cell x1 (by simp)
          replace x2 := hgx.cell x2 (by simp)
          replace x3 := hgx.cell x3 (by simp)
          replace x4 := hgx.cell x4 (by simp)
          clear hVb hSb hgx ca
          go_wp2_with fail
          refine (isLoan_any q.op q.x q.y q.n (.slice an nn cn) _).mono ?_
          obtain ⟨lb, hlb⟩ : ∃ lb, (q.op == 4 || q.op == 5) = lb := ⟨_, rfl⟩
          rw [hlb]
          rintro e w5 ⟨rfl, hg5⟩
          have HLB := Lib.hid (show lnB L a = lb by unfold lnB; rw [HPA.out]; exact hlb)
          have HG5 := Lib.hid (HGX.out.trans0 hg5)
          have HW5 := Lib.hid (HWX.out.gr0 hg5)
          replace x4 := hg5.cell x4 (by simp)
          clear hg5 x0 x1 x2 x3 hlb
          cases lb
          case' true =>
            have hpw : IntKind.u64.wrap ((2 : Int) ^ a) = ((2 ^ a : Nat) : Int) := u64_pow (by omega)
            have hp64 : 2 ^ a < 2 ^ 64 := Nat.pow_lt_pow_right (by omega) (by omega)
            have hor : bits BinOp.or .u64 (S : Nat) (2 ^ a : Nat) = ((S ||| 2 ^ a : Nat) : Int) := u64_or hS64 hp64
            have HB := Lib.hid (show ∀ k, (S ||| 2 ^ a).testBit k = (S.testBit k || (lnB L a && decide (k = a))) from fun k => by
              rw [HLB.out, Nat.testBit_or, Nat.testBit_two_pow, Bool.true_and]
              congr 1
              apply decide_eq_decide.2
              omega)
            have HR64 := Lib.hid (Nat.or_lt_two_pow hS64 hp64)
            obtain ⟨P, hP⟩ : ∃ P, 2 ^ a = P := ⟨_, rfl⟩
            rw [hP] at hpw hor HB HR64
            obtain ⟨R, hRR⟩ : ∃ R, S ||| P = R := ⟨_, rfl⟩
            rw [hRR] at hor HB HR64
            clear hP hRR hp64
            go_upto_region 11 with fail
          case' false =>
            have HB := Lib.hid (show ∀ k, S.testBit k = (S.testBit k || (lnB L a && decide (k = a))) from fun k => by rw [HLB.out, Bool.false_and, Bool.or_false])
            obtain ⟨R, hRR⟩ : ∃ R, S = R := ⟨_, rfl⟩
            have HR64 := Lib.hid (show R < 2 ^ 64 by rw [← hRR]; exact hS64)
            have HB := Lib.hid (show ∀ k, R.testBit k = (S.testBit k || (lnB L a && decide (k = a))) from fun k => by rw [← hRR]; exact HB.out k)
            rw [hRR]
            clear hRR
            go_upto_region 11 with fail
          all_goals
            have HROW := Lib.hid (show ∀ k, R.testBit k = true ↔ plA p.types L a (fun k => tb O2 a k = true) k from fun k => by
              have := pl_row (T := p.types) HPA.out HVB.out HSB.out HB.out k
              rw [← HX.out] at this
              exact this)
            have HJ0 := Lib.hid (HR.out.enter (plA_mono _ _) HROW.out)
            have hlw : w.heap.size < w5.heap.size := HW5.out.lt
            clear hS64
            go_wp2_with fail
            go_loopw [4, 49] (fun s i wq => ∃ (c : Bool) (O3 : Nat → Nat) (j : Nat), j ≤ nn ∧ s = .bool c ∧ i = .int .i64 j ∧ FwI (boxL L.length 64) L (fun _ => False) (plA p.types L) (tb O) (tb O3) c a (fun k => R.testBit k) j ∧ (∀ j, O3 j < 2 ^ 64) ∧ URow wq w.heap.size L.length O3 ∧ Gr w5 wq (some w.heap.size)) (fun _ i _ => nn - (intOf i).toNat)
            case atStart => exact ⟨c, O2, 0, Nat.zero_le _, rfl, rfl, HJ0.out, HO2.out, HW5.out, Gr.refl _ _⟩
            case round =>
              obtain ⟨c, O3, j, hj, rfl, rfl, hJ, hO3, hU, hgj⟩ := hrel
              have HJ := Lib.hid hJ
              have HO3 := Lib.hid hO3
              have HU := Lib.hid hU
              have HGJ := Lib.hid hgj
              clear hJ hO3
              by_cases hjn : j < nn
              · have hjq : j < q.next.length := by rw [HNN.out]; exact hjn
                obtain ⟨b6, o6, rfl, -, c6⟩ := (HIN.out.gr (HG5.out.weaken.trans HGJ.out (fun r e => .inl e)) (fun b o h => h)).at (i := j) (by rw [zs_length]; exact hjq)
                obtain ⟨kk, hkk⟩ : ∃ kk, q.next[j] = kk := ⟨_, rfl⟩
                have hzk : (zs q.next)[j]'(by rw [zs_length]; exact hjq) = (kk : Int) := by rw [← hkk]; simp [zs]
                rw [hzk] at c6
                have hjN : j < (nextOf L a).length := by rw [HNQ.out]; exact hjq
                have HK := Lib.hid (show (nextOf L a)[j] = kk by simp only [HNQ.out]; exact hkk)
                have hkL : kk < L.length := HNL.out kk (by rw [← hkk]; exact List.getElem_mem hjq)
                have e0 := hU.cell hkL
                have fz := hU.free kk
                have hor2 : bits BinOp.or .u64 (O3 kk : Nat) (R : Nat) = ((O3 kk ||| R : Nat) : Int) := u64_or (HO3.out kk) HR64.out
                obtain ⟨Y, hY⟩ : ∃ Y, O3 kk = Y := ⟨_, rfl⟩
                rw [hY] at e0 hor2
                obtain ⟨Z, hZ⟩ : ∃ Z, Y ||| R = Z := ⟨_, rfl⟩
                rw [hZ] at hor2
                have HY := Lib.hid hY
                have HZ := Lib.hid hZ
                clear hkk hzk hgj hU hY hZ
                by_cases he : Z = Y
                · have hc : ((Z : Int) == (Y : Int)) = true := by simp [he]
                  have hc2 : ((Z : Int) != (Y : Int)) = false := by simp [he]
                  have HN := Lib.hid (show FwI (boxL L.length 64) L (fun _ => False) (plA p.types L) (tb O) (tb O3) c a (fun k => R.testBit k) (j + 1) from HJ.out.same hjN (fun v hv => by
                    rw [HK.out]
                    show (O3 kk).testBit v = true
                    rw [HY.out, ← he, ← HZ.out, Nat.testBit_or, hv, Bool.or_true]))
                  clear he
                  go_wp2_with fail
                  go_quiet (fail)
                  all_goals
                    go_wp2_with fail
                    go_roundw
                    case rel => exact ⟨c, O3, j + 1, by omega, rfl, by go_num, HN.out, HO3.out, HU.out.gr0 ((Gr.refl _ _).drewN _), HGJ.out.drewN _⟩
                    case measure => simp [intOf]; omega
                · have hc : ((Z : Int) == (Y : Int)) = false := by simp; omega
                  have hc2 : ((Z : Int) != (Y : Int)) = true := by simp; omega
                  have HN := Lib.hid (show FwI (boxL L.length 64) L (fun _ => False) (plA p.types L) (tb O) (tb (updW O3 kk Z)) true a (fun k => R.testBit k) (j + 1) by
                    obtain ⟨k, hk, h1, h2⟩ := or_ne (HO3.out kk) HR64.out (by rw [HY.out, HZ.out]; exact he)
                    have hch := HJ.out.change (plA_mono _ _) haL hjN (b := k) (by rw [HK.out]; exact boxL_mem hkL hk) h1 (by rw [HK.out]; exact h2)
                    rw [HK.out] at hch
                    rw [← HZ.out, ← HY.out, tb_or]
                    exact hch)
                  have HN64 := Lib.hid (show ∀ j, updW O3 kk Z j < 2 ^ 64 from updW_lt HO3.out (by rw [← HZ.out, ← HY.out]; exact Nat.or_lt_two_pow (HO3.out kk) HR64.out))
                  clear he
                  go_wp2_with fail
                  go_quiet (fail)
                  all_goals
                    have e1 : (wr.drewN nq).cell? ⟨w.heap.size, kk, none⟩ = some (.int .u64 (Y : Nat)) := by simpa using e0
                    have fz1 : (wr.drewN nq).frozen? ⟨w.heap.size, kk, none⟩ = false := by simpa using fz
                    go_wp2_with fail
                    go_roundw
                    case rel => exact ⟨true, updW O3 kk Z, j + 1, by omega, rfl, by go_num, HN.out, HN64.out, (HU.out.gr0 ((Gr.refl _ _).drewN _)).upd kk Z, (HGJ.out.drewN _).setOwn rfl _⟩
                    case measure => simp [intOf]; omega
              · obtain rfl : j = nn := by omega
                go_wp2_with fail
                go_roundw
                case rel => exact ⟨c, O3, a + 1, by omega, rfl, by go_num, HJ.out.exit (by rw [HNQ.out, HNN.out]; exact Nat.le_refl _), HO3.out, HU.out, HG5.out.trans HGJ.out (fun r e => .inr (by cases e; exact Nat.le_refl _))⟩
                case measure => simp [intOf]; omega
        · obtain rfl : a = L.length := by omega
          go_wp2_with fail
          go_roundg (leftG (boxL L.length 64) (tb O2) c)
          case measure => exact HR.out.left
          case rel => exact ⟨c, O2, rfl, rfl, HR.out.done (Nat.le_refl _), HO2.out, HW2.out, HG2.out⟩
end Go.Proofs.Ytadlnjglpigjmaa
