/- The law FnExactBoundsHold: the walk of the law's own function. For every program and every list of lists it returns true and writes nothing that was there. -/
import Derived.Test.YtdnhinkjmjpnnaaFN

import Derived.Test.YtdnhinkjmjpnnaaA3

namespace Go.Proofs.Ytdnhinkjmjpnnaa

open Go.RowKit

set_option maxRecDepth 100000 in
set_option maxHeartbeats 4000000 in
theorem fnExactBoundsHold_walk (p : Pr) (LL : List (List Int)) (at' ab aL : Option Addr) (ct cb cL : Nat) (w : World) (hT : InAt w Any p.types at') (hB : SlAt w Any p.body ab) (hlt : p.types.length ≤ maxLen) (hlb : p.body.length ≤ maxLen) (hLL : ListsAt w LL aL) (hln : LL.length ≤ maxLen) (hll : ∀ k (h : k < LL.length), LL[k].length ≤ maxLen) :
    Calls Try.prog 8 #[.agg #[.slice at' p.types.length ct, .slice ab p.body.length cb], .slice aL LL.length cL] w fun e w' => e = .returned (.bool true) ∧ Gr w w' none := by
  have hg1 : ∀ o, Gr w (w.alloc o) none := fun o => (Gr.refl _ _).alloc _
  go_enter Try.func8, Try.ntmps8
  go_wp2_with fail
  refine (szProgram_any p at' ab ct cb _ (hB.gr0 (hg1 _)) hlt hlb).mono ?_
  rintro e w1 ⟨r, rfl, hr, hg⟩
  have hG1 : Gr w w1 none := (hg1 _).trans0 hg
  have q0 : w1.cell? ⟨w.heap.size, 0, none⟩ = some (.slice at' p.types.length ct) := hg.cell (p := ⟨w.heap.size, 0, none⟩) (cell?_new2 _ _).1 (by simp)
  have q1 : w1.cell? ⟨w.heap.size, 1, none⟩ = some (.slice ab p.body.length cb) := hg.cell (p := ⟨w.heap.size, 1, none⟩) (cell?_new2 _ _).2 (by simp)
  clear hg
  by_cases hneg : r < 0
  · clear hr
    go_wp2_with fail
    go_ret
    exact ⟨rfl, hG1⟩
  · have hsz : p.size ≤ 1048576 := by omega
    obtain ⟨hs1, hs2, hs3⟩ := Pr.size_le hsz
    have hr1 : r ≤ 1048576 := by omega
    clear hr
    go_wp2_with fail
    refine (szIntSS_any LL aL cL r _ (by omega) hr1 hln hll (hLL.gr0 hG1)).mono ?_
    rintro e w1' ⟨r2, rfl, hr2, hg1'⟩
    replace hG1 : Gr w w1' none := hG1.trans0 hg1'
    replace q0 := hg1'.cell q0 (by simp)
    replace q1 := hg1'.cell q1 (by simp)
    clear hg1' hneg
    by_cases hneg : r2 < 0
    · clear hr2
      go_wp2_with fail
      go_ret
      exact ⟨rfl, hG1⟩
    obtain ⟨hL1, hL2⟩ := hr2.resolve_left hneg
    clear hr2
    go_wp2_with fail
    refine (toProgram_any p at' ab ct cb _ (hT.gr0 hG1) (hB.gr0 hG1) hsz).mono ?_
    rintro e w2 ⟨g1, g2, rfl, hc1, hc2, hg2, -⟩
    have hG2 : Gr w w2 none := hG1.trans0 hg2
    replace q0 := hg2.cell q0 (by simp)
    replace q1 := hg2.cell q1 (by simp)
    clear hg2
    go_wp2_with fail
    refine (toIntSS_any LL aL cL _ (hLL.gr0 hG2) hL1 hL2).mono ?_
    rintro e wt ⟨gt, rfl, hti, hgt⟩
    have hGt : Gr w wt none := hG2.trans0 hgt
    replace q0 := hgt.cell q0 (by simp)
    replace q1 := hgt.cell q1 (by simp)
    replace hc1 := hc1.any.gr0 hgt
    replace hc2 := hc2.any.gr0 hgt
    clear hgt
    go_wp2_with fail
    refine (specBoundsHold_any p LL _ _ _ _ _ _ _ hc1 hc2 hs1 hs2 hti hL2).mono ?_
    rintro e w3 ⟨rfl, hg3⟩
    have hG3 : Gr w w3 none := hGt.trans0 hg3
    replace q0 := hg3.cell q0 (by simp)
    replace q1 := hg3.cell q1 (by simp)
    clear hg3 hc1 hc2
    go_wp2_with fail
    refine (toProgram_any p at' ab ct cb _ (hT.gr0 hG3) (hB.gr0 hG3) hsz).mono ?_
    rintro e w4 ⟨g3, g4, rfl, hd1, hd2, hg4, -⟩
    have hG4 : Gr w w4 none := hG3.trans0 hg4
    replace q0 := hg4.cell q0 (by simp)
    replace q1 := hg4.cell q1 (by simp)
    clear hg4
    have hga : ∀ o, Gr w4 (w4.alloc o) none := fun o => (Gr.refl _ _).alloc _
    go_wp2_with fail
    refine (toIntSS_any LL aL cL _ (hLL.gr0 (hG4.trans0 (hga _))) hL1 hL2).mono ?_
    rintro e wz ⟨gz, rfl, hzi, hgz⟩
    have hGz : Gr w wz none := (hG4.alloc _).trans0 hgz
    have x0 : wz.cell? ⟨w4.heap.size, 0, none⟩ = some (.slice (some ⟨g3, 0, none⟩) p.types.length p.types.length) := hgz.cell (p := ⟨w4.heap.size, 0, none⟩) (cell?_new2 _ _).1 (by simp)
    have x1 : wz.cell? ⟨w4.heap.size, 1, none⟩ = some (.slice (some ⟨g4, 0, none⟩) p.body.length p.body.length) := hgz.cell (p := ⟨w4.heap.size, 1, none⟩) (cell?_new2 _ _).2 (by simp)
    replace q0 := hgz.cell ((hga _).cell q0 (by simp)) (by simp)
    replace q1 := hgz.cell ((hga _).cell q1 (by simp)) (by simp)
    have HX1 := Lib.hid (show InAt wz Any p.types (some ⟨g3, 0, none⟩) from hd1.any.gr0 ((hga _).trans0 hgz))
    have HX2 := Lib.hid (show SlAt wz Any p.body (some ⟨g4, 0, none⟩) from hd2.any.gr0 ((hga _).trans0 hgz))
    have HZI := Lib.hid hzi
    clear hgz hd1 hd2 hzi
    go_wp2_with fail
    refine (implBoundsHold_any p LL _ _ _ _ _ _ _ HX1.out HX2.out hs1 hs3 HZI.out hL2).mono ?_
    rintro e w5 ⟨rfl, hg5⟩
    have hG5 : Gr w w5 none := hGz.trans0 hg5
    replace q0 := hg5.cell q0 (by simp)
    replace q1 := hg5.cell q1 (by simp)
    replace x0 := hg5.cell x0 (by simp)
    replace x1 := hg5.cell x1 (by simp)
    have hx1 : InAt w5 Any p.types (some ⟨g3, 0, none⟩) := HX1.out.gr0 hg5
    have hx2 : SlAt w5 Any p.body (some ⟨g4, 0, none⟩) := HX2.out.gr0 hg5
    have HZ5 := Lib.hid (HZI.out.gr0 hg5)
    have HG5 := Lib.hid hG5
    clear hg5
    have hga5 : Gr w5 w5.drew none := (Gr.refl _ _).drew
    go_upto_region 14 with fail
    go_cut [39] (fun s wx => s = .bool false ∧ Gr w5 wx none)
    case first =>
      go_region_with (first | (go_at_call 19; refine (toProgram_any p at' ab ct cb _ (by exact hT.gr0 hG5.drew) (by exact hB.gr0 hG5.drew) hsz).mono ?_; rintro e w6 ⟨g5, g6, rfl, he1, he2, hg6, -⟩; have y0 := hg6.cell x0 (by simp); have y1 := hg6.cell x1 (by simp); have z1 : InAt w6 Any p.types (some ⟨g3, 0, none⟩) := (hx1.gr0 hga5).gr0 hg6; have z2 : SlAt w6 Any p.body (some ⟨g4, 0, none⟩) := (hx2.gr0 hga5).gr0 hg6) | (go_at_call 21; refine (eqProgram_any p (some ⟨g3, 0, none⟩) (some ⟨g4, 0, none⟩) (some ⟨g5, 0, none⟩) (some ⟨g6, 0, none⟩) p.types.length p.body.length p.types.length p.body.length w6 z1 z2 he1.any he2.any hs1 hs3).mono ?_; rintro e w7 ⟨rfl, hg7⟩))
      all_goals
        go_wp2_with fail
        go_meet
        exact ⟨rfl, (hga5.trans0 hg6).trans0 hg7⟩
    case rest =>
      rename World => wx
      obtain ⟨rfl, hG⟩ := hcut
      have HGX := Lib.hid (HG5.out.trans0 hG)
      have HZX := Lib.hid (HZ5.out.gr0 hG)
      clear hG
      go_wp2_with fail
      refine (toIntSS_any LL aL cL _ (hLL.gr0 HGX.out) hL1 hL2).mono ?_
      rintro e wy ⟨gy, rfl, hyi, hgy⟩
      have HY := Lib.hid hyi
      have HGY := Lib.hid (HGX.out.trans0 hgy)
      have HZY := Lib.hid (HZX.out.gr0 hgy)
      clear hyi hgy
      go_wp2_with fail
      refine (eqIntSS_any LL _ _ _ _ _ HZY.out HY.out hL1 hL2).mono ?_
      rintro e wv ⟨rfl, hgv⟩
      have HGV := Lib.hid (HGY.out.trans0 hgv)
      clear hgv
      go_wp2_with fail
      go_ret
      exact ⟨rfl, HGV.out⟩
end Go.Proofs.Ytdnhinkjmjpnnaa
