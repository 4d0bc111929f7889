/- What is needed from a point on: the walk of needed, and of LiveAfter, NeedsOf, TakesOf of the program. -/
import Derived.Test.YtdnhinkjmjpnnaaDI

import Derived.Test.YtdnhinkjmjpnnaaF2

import Derived.Deep.LoopGhost

namespace Go.Proofs.Ytdnhinkjmjpnnaa

open Go.RowKit

theorem need_bits {L : List Pt} {T : List Int} {O : Nat → Nat} {a W1 W2 W3 : Nat} {op x y : Int} (h1 : ∀ v, W1.testBit v = usesB T op x y v) (h2 : ∀ v, W2.testBit v = (nextOf L a).any fun j => (O j).testBit v) (h3 : ∀ v, W3.testBit v = setsB op x v)
    (ho : (ptAt L a).op = op) (hx : (ptAt L a).x = x) (hy : (ptAt L a).y = y) (v : Nat) : (W1 ||| ndiff W2 W3).testBit v = needRow L (usL T L) (nsL L) (tb O) a v := by
  rw [Nat.testBit_or, ndiff_bit, h1, h2, h3]
  unfold needRow usL nsL tb
  rw [ho, hx, hy, Bool.and_comm]
def Needed (p : Pr) (w : World) (e : Ending) (w' : World) : Prop := ∃ (g : Nat) (O : Nat → Nat), e = .returned (.slice (some ⟨g, 0, none⟩) (pts p).length (pts p).length) ∧ WRow w' g (pts p).length O ∧ (∀ j, O j < 2 ^ 6) ∧
  (∀ i v, (O i).testBit v = true ↔ Least (NeedS (pts p) (usL p.types (pts p)) (nsL (pts p))) i v) ∧ Gr w w' none
set_option maxRecDepth 100000 in
set_option maxHeartbeats 4000000 in
theorem needed_any (p : Pr) (gb : Nat) (w : World) (hGA : GraphAt w p gb) (hv : validP p = true) :
    Calls Try.prog 104 #[.pointer (some ⟨gb, 0, none⟩)] w (Needed p w) := by
  have hp : p.types.length ≤ 6 := valid_types hv
  have hl : (pts p).length ≤ 61 := pts_len hv
  have HST := Lib.hid (fun k (hk : k < (pts p).length) => set_in hv hk)
  have HGP := Lib.hid hGA
  obtain ⟨L, a3, n3, a4, n4, al, cl, hL, d0, d1, d2, hr1, hr2, hr3⟩ := hGA
  unfold Needed
  have HL := Lib.hid hL
  rw [← hL] at hl HST ⊢
  have hgb : gb < w.heap.size := lt_of_cell d2
  have HR3 := Lib.hid hr3
  have HD2 := Lib.hid d2
  clear hL d0 d1 hr1 hr2 hr3 hv
  have hmk := fun w : World => run_make_row' (P := Try.prog) 22 3 (.int .i64 0) 8 Try.underlying22 Iinfo rfl .i64 .i64 L.length (by omega) (by omega) w
  go_enter Try.func104, Try.ntmps104
  go_wp2_with fail
  have hW0 : WRow (w.alloc (.cells (madeCells #[.int .i64 0] L.length) 3)) w.heap.size L.length (fun _ => 0) := IRow.new w L.length
  have hG0 : Gr w (w.alloc (.cells (madeCells #[.int .i64 0] L.length) 3)) none := (Gr.refl _ _).alloc _
  clear hmk
  go_loopg [4] (leftG (boxL L.length 6) (tb fun _ => 0) true) (fun gh s wr => ∃ (c : Bool) (O : Nat → Nat), gh = leftG (boxL L.length 6) (tb O) c ∧ s = .bool c ∧ NdA L (usL p.types L) (nsL L) (tb O) c ∧ (∀ j, O j < 2 ^ 6) ∧ WRow wr w.heap.size L.length O ∧ Gr w wr none)
  case atStart => exact ⟨true, fun _ => 0, rfl, rfl, by have := NdA.start L (usL p.types L) (nsL L); rw [show tb (fun _ => 0) = fun _ _ => false from by funext i v; simp [tb]]; exact this, fun j => by simp, hW0, hG0⟩
  case round =>
    obtain ⟨c, O, rfl, rfl, hA, hO, hW, hg⟩ := hrel
    clear hW0 hG0
    have HA := Lib.hid hA
    have HO := Lib.hid hO
    clear hA hO
    cases c with
    | false =>
      go_wp2_with fail
      go_ret
      exact ⟨_, O, rfl, hW, HO.out, HA.out.2 rfl, hg⟩
    | true =>
      have HW := Lib.hid hW
      have HG := Lib.hid hg
      replace d2 := hg.cell HD2.out (by simp)
      clear hW
      go_wp2_with fail
      go_loopw [4, 5] (fun s i wq => ∃ (c : Bool) (O2 : Nat → Nat) (a : Nat) (z : Int), a ≤ L.length ∧ s = .bool c ∧ i = .int .i64 z ∧ z = (a : Int) - 1 ∧ NdR (boxL L.length 6) L (usL p.types L) (nsL L) (tb O) (tb O2) c a ∧ (∀ j, O2 j < 2 ^ 6) ∧ WRow wq w.heap.size L.length O2 ∧ Gr w wq none) (fun _ i _ => (intOf i + 1).toNat)
      case atStart => exact ⟨false, O, L.length, _, Nat.le_refl _, rfl, rfl, by omega, NdR.start HA.out.1, HO.out, HW.out, HG.out⟩
      case round =>
        obtain ⟨c, O2, a, z, ha, rfl, rfl, hz, hR, hO2, hW2, hg2⟩ := hrel
        have HR := Lib.hid hR
        have HO2 := Lib.hid hO2
        have HW2 := Lib.hid hW2
        have HG2 := Lib.hid hg2
        clear hR hO2 hW2 hg d2
        rcases a with _ | a
        · obtain rfl : z = -1 := by omega
          clear hz
          go_wp2_with fail
          go_roundg (leftG (boxL L.length 6) (tb O2) c)
          case measure => exact HR.out.left
          case rel => exact ⟨c, O2, rfl, rfl, HR.out.done, HO2.out, HW2.out, HG2.out⟩
        · obtain rfl : z = (a : Int) := by omega
          have haL : a < L.length := by omega
          have hi1 : (0 : Int) ≤ (a : Int) := by omega
          obtain ⟨b, po, rfl, an, cn, c0, c1, c2, c3, c4, -, -⟩ := (HR3.out.gr hg2) a haL
          obtain ⟨q, eq⟩ : ∃ q, L[a] = q := ⟨_, rfl⟩
          rw [eq] at c0 c1 c2 c3 c4
          have hpa : ptAt L a = q := (ptAt_get haL).trans eq
          have hst := HST.out a haL
          rw [eq] at hst
          have hst1 : setOf q.op q.x < 6 := by omega
          have HPA := Lib.hid hpa
          have HS1 := Lib.hid hst1
          have HS0 := Lib.hid hst.1
          have e2 := hg2.cell HD2.out (by simp)
          obtain ⟨nn, hnn⟩ : ∃ nn, q.next.length = nn := ⟨_, rfl⟩
          rw [hnn] at c4
          clear hz eq hpa hst hst1 hnn
          go_upto_region 9 with fail
          have hGB : Gr wr (wr.alloc (.cells #[.int .i64 q.op, .int .i64 q.x, .int .i64 q.y, .int .i64 q.n, .slice an nn cn] 88)) none := (Gr.refl _ _).alloc _
          have hE := heap1_0 wr (.cells #[.int .i64 q.op, .int .i64 q.x, .int .i64 q.y, .int .i64 q.n, .slice an nn cn] 88)
          generalize hwB : wr.alloc (.cells #[.int .i64 q.op, .int .i64 q.x, .int .i64 q.y, .int .i64 q.n, .slice an nn cn] 88) = wB at *
          have b0 : wB.cell? ⟨wr.heap.size, 0, none⟩ = some (.int .i64 q.op) := cell_of_row _ _ _ _ _ _ hE
          have b1 : wB.cell? ⟨wr.heap.size, 1, none⟩ = some (.int .i64 q.x) := cell_of_row _ _ _ _ _ _ hE
          have b2 : wB.cell? ⟨wr.heap.size, 2, none⟩ = some (.int .i64 q.y) := cell_of_row _ _ _ _ _ _ hE
          have b3 : wB.cell? ⟨wr.heap.size, 3, none⟩ = some (.int .i64 q.n) := cell_of_row _ _ _ _ _ _ hE
          have b4 : wB.cell? ⟨wr.heap.size, 4, none⟩ = some (.slice an nn cn) := cell_of_row _ _ _ _ _ _ hE
          have hGw : Gr w wB none := HG2.out.trans0 hGB
          have HGB := Lib.hid hGB
          have HGW := Lib.hid hGw
          clear hwB hE hGB c0 c1 c2 c3 c4 hg2 hGw e2
          go_cut [7] (fun s wx => ∃ W, s = .int .i64 (W : Nat) ∧ (∀ v, W.testBit v = needRow L (usL p.types L) (nsL L) (tb O2) a v) ∧ W < 2 ^ 6 ∧ Gr wB wx none)
          case first =>
            go_region_with (first | (go_at_call 146; refine (used_any p gb q.op q.x q.y q.n (.slice an nn cn) _ (by exact HGP.out.gr HGW.out.drew) hp).mono ?_; rintro e w1 ⟨W1, rfl, hW1, hl1, hg1⟩; have HW1 := Lib.hid hW1; clear hW1; have y0 := hg1.cell b0 (by simp); have y1 := hg1.cell b1 (by simp); have y2 := hg1.cell b2 (by simp); have y3 := hg1.cell b3 (by simp); have y4 := hg1.cell b4 (by simp); have HG1 := Lib.hid (show Gr wB w1 none from (Gr.refl _ _).drew.trans0 hg1); clear hg1) | (go_at_call 105; have hA := after_any p gb w.heap.size L.length a O2 w1 (HGP.out.gr (HGW.out.trans0 HG1.out)) (by rw [← HL.out]; exact HW2.out.gr0 (HGB.out.trans0 HG1.out)) HO2.out (by rw [← HL.out]; exact haL) (by rw [← HL.out]; omega); rw [← HL.out] at hA; refine hA.mono ?_; clear hA; rintro e w2 ⟨W2, rfl, hW2, hl2, hg2⟩; have HW2' := Lib.hid hW2; clear hW2; have z0 := hg2.cell y0 (by simp); have z1 := hg2.cell y1 (by simp); have z2 := hg2.cell y2 (by simp); have z3 := hg2.cell y3 (by simp); have z4 := hg2.cell y4 (by simp); have HG2' := Lib.hid (show Gr wB w2 none from HG1.out.trans0 hg2); clear hg2) | (go_at_call 147; refine (setBit_any q.op q.x q.y q.n (.slice an nn cn) _ HS1.out HS0.out).mono ?_; rintro e w3 ⟨W3, rfl, hW3, hl3, hg3⟩; have HW3 := Lib.hid hW3; clear hW3; have HG3 := Lib.hid (show Gr wB w3 none from HG2'.out.trans0 hg3); clear hg3; have hn := i64_andNot (a := W2) (b := W3) (by omega); have hnl : ndiff W2 W3 < 2 ^ 6 := ndiff_lt hl2; have ho := i64_or (a := W1) (b := ndiff W2 W3) (by omega) (by omega); have HOL := Lib.hid (show W1 ||| ndiff W2 W3 < 2 ^ 6 from Nat.or_lt_two_pow hl1 hnl); clear hl1 hl2 hl3 hnl))
            all_goals
              go_wp2_with fail
              go_meet
              exact ⟨_, rfl, need_bits HW1.out HW2'.out HW3.out (by rw [HPA.out]) (by rw [HPA.out]) (by rw [HPA.out]), HOL.out, HG3.out⟩
          case rest =>
            rename World => wx
            obtain ⟨W, rfl, hWb, hW6, hgx⟩ := hcut
            have hgr : Gr wr wx none := HGB.out.trans0 hgx
            have hgw : Gr w wx none := HGW.out.trans0 hgx
            have hWx := HW2.out.gr0 hgr
            have cO := hWx.cell haL
            have fO := hWx.free a
            have HWX := Lib.hid hWx
            have HGX := Lib.hid hgw
            have HWB := Lib.hid hWb
            clear hgx hgr hgw hWx hWb b0 b1 b2 b3 b4
            obtain ⟨o, ho⟩ : ∃ o, O2 a = o := ⟨_, rfl⟩
            rw [ho] at cO
            have HOo := Lib.hid ho
            clear ho
            by_cases he : W = o
            · have hc : ((W : Int) != ((o : Nat) : Int)) = false := by simp [he]
              have HN := Lib.hid (show NdR (boxL L.length 6) L (usL p.types L) (nsL L) (tb O) (tb O2) c a from HR.out.same fun v hv => by
                rw [← HWB.out v, he, ← HOo.out] at hv; exact hv)
              clear he
              go_wp2_with fail
              go_roundw
              case rel => exact ⟨c, O2, a, (a : Int) - 1, by omega, rfl, by go_num, rfl, HN.out, HO2.out, HWX.out, HGX.out⟩
              case measure => first | (simp [intOf]; done) | (simp [intOf]; omega)
            · have hc : ((W : Int) != ((o : Nat) : Int)) = true := by simp; omega
              have HN := Lib.hid (show NdR (boxL L.length 6) L (usL p.types L) (nsL L) (tb O) (tb (updW O2 a W)) true a from by
                rw [tb_upd]
                have ho6 : o < 2 ^ 6 := by rw [← HOo.out]; exact HO2.out a
                obtain ⟨v, hv6, hne⟩ := bit_ne hW6 ho6 he
                exact HR.out.change haL HWB.out (boxL_mem haL hv6) (by rw [← HOo.out] at hne; exact hne))
              have HL6 := Lib.hid (show ∀ j, updW O2 a W j < 2 ^ 6 from updW_lt HO2.out hW6)
              clear he
              go_wp2_with fail
              go_roundw
              case rel => exact ⟨true, updW O2 a W, a, (a : Int) - 1, by omega, rfl, by go_num, rfl, HN.out, HL6.out, WRow.upd HWX.out a W, HGX.out.setNew (Nat.le_refl _) _⟩
              case measure => first | (simp [intOf]; done) | (simp [intOf]; omega)
end Go.Proofs.Ytdnhinkjmjpnnaa
