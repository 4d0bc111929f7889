/- The law FnExactUseOf: the walk of the law's own function. For every program and every numbers it returns true and writes nothing that was there. -/
import Derived.Test.YtgphnpljjilfjaaU2

import Derived.Test.YtgphnpljjilfjaaA3

namespace Go.Proofs.Ytgphnpljjilfjaa

open Go.RowKit

set_option maxRecDepth 100000 in
set_option maxHeartbeats 2000000 in
theorem fnExactUseOf_walk (p : Pr) (i0 i1 : Int) (at' ab : Option Addr) (ct cb : Nat) (w : World) (hT : InAt w Any p.types at') (hB : SlAt w Any p.body ab) (hlt : p.types.length ≤ maxLen) (hlb : p.body.length ≤ maxLen) :
    Calls Try.prog 12 #[.agg #[.slice at' p.types.length ct, .slice ab p.body.length cb], .int .i64 i0, .int .i64 i1] w fun e w' => e = .returned (.bool true) ∧ Gr w w' none := by
  have hg1 : ∀ o, Gr w (w.alloc o) none := fun o => (Gr.refl _ _).alloc _
  go_enter Try.func12, Try.ntmps12
  go_wp2_with fail
  refine (szProgram_any p at' ab ct cb _ (hB.gr0 (hg1 _)) hlt hlb).mono ?_
  rintro e w1 ⟨r, rfl, hr, hg⟩
  have hG1 : Gr w w1 none := (hg1 _).trans0 hg
  have q0 : w1.cell? ⟨w.heap.size, 0, none⟩ = some (.slice at' p.types.length ct) := hg.cell (p := ⟨w.heap.size, 0, none⟩) (cell?_new2 _ _).1 (by simp)
  have q1 : w1.cell? ⟨w.heap.size, 1, none⟩ = some (.slice ab p.body.length cb) := hg.cell (p := ⟨w.heap.size, 1, none⟩) (cell?_new2 _ _).2 (by simp)
  clear hg
  by_cases hneg : r < 0
  · clear hr
    go_wp2_with fail
    go_ret
    exact ⟨rfl, hG1⟩
  · have hsz : p.size ≤ 1048576 := by omega
    obtain ⟨hs1, hs2, hs3⟩ := Pr.size_le hsz
    clear hr
    go_wp2_with fail
    refine (toProgram_any p at' ab ct cb _ (hT.gr0 hG1) (hB.gr0 hG1) hsz).mono ?_
    rintro e w2 ⟨g1, g2, rfl, hc1, hc2, hg2, -⟩
    have hG2 : Gr w w2 none := hG1.trans0 hg2
    replace q0 := hg2.cell q0 (by simp)
    replace q1 := hg2.cell q1 (by simp)
    clear hg2
    go_wp2_with fail
    refine (specUseOf_any p i0 i1 _ _ _ _ _ hc1.any hc2.any hs1 hs2).mono ?_
    rintro e w3 ⟨rfl, hg3⟩
    have hG3 : Gr w w3 none := hG2.trans0 hg3
    replace q0 := hg3.cell q0 (by simp)
    replace q1 := hg3.cell q1 (by simp)
    clear hg3 hc1 hc2
    go_wp2_with fail
    refine (toProgram_any p at' ab ct cb _ (hT.gr0 hG3) (hB.gr0 hG3) hsz).mono ?_
    rintro e w4 ⟨g3, g4, rfl, hd1, hd2, hg4, -⟩
    have hG4 : Gr w w4 none := hG3.trans0 hg4
    replace q0 := hg4.cell q0 (by simp)
    replace q1 := hg4.cell q1 (by simp)
    clear hg4
    go_wp2_with fail
    have hga : ∀ o, Gr w4 (w4.alloc o) none := fun o => (Gr.refl _ _).alloc _
    refine (implUseOf_any p i0 i1 _ _ _ _ _ (hd1.any.gr0 (hga _)) (hd2.any.gr0 (hga _)) hs1 hs3).mono ?_
    rintro e w5 ⟨rfl, hg5⟩
    have hG5 : Gr w w5 none := (hG4.alloc _).trans0 hg5
    replace q0 := hg5.cell ((hga _).cell q0 (by simp)) (by simp)
    replace q1 := hg5.cell ((hga _).cell q1 (by simp)) (by simp)
    have x0 : w5.cell? ⟨w4.heap.size, 0, none⟩ = some (.slice (some ⟨g3, 0, none⟩) p.types.length p.types.length) := hg5.cell (p := ⟨w4.heap.size, 0, none⟩) (cell?_new2 _ _).1 (by simp)
    have x1 : w5.cell? ⟨w4.heap.size, 1, none⟩ = some (.slice (some ⟨g4, 0, none⟩) p.body.length p.body.length) := hg5.cell (p := ⟨w4.heap.size, 1, none⟩) (cell?_new2 _ _).2 (by simp)
    have hx1 : InAt w5 Any p.types (some ⟨g3, 0, none⟩) := hd1.any.gr0 ((hga _).trans0 hg5)
    have hx2 : SlAt w5 Any p.body (some ⟨g4, 0, none⟩) := hd2.any.gr0 ((hga _).trans0 hg5)
    clear hg5 hd1 hd2
    have hga5 : Gr w5 w5.drew none := (Gr.refl _ _).drew
    go_upto_region 10 with fail
    go_cut [34] (fun s wx => s = .bool false ∧ Gr w wx none)
    case first =>
      go_region_with (first | (go_at_call 15; refine (toProgram_any p at' ab ct cb _ (by exact hT.gr0 hG5.drew) (by exact hB.gr0 hG5.drew) hsz).mono ?_; rintro e w6 ⟨g5, g6, rfl, he1, he2, hg6, -⟩; have y0 := hg6.cell x0 (by simp); have y1 := hg6.cell x1 (by simp); have z1 : InAt w6 Any p.types (some ⟨g3, 0, none⟩) := (hx1.gr0 hga5).gr0 hg6; have z2 : SlAt w6 Any p.body (some ⟨g4, 0, none⟩) := (hx2.gr0 hga5).gr0 hg6) | (go_at_call 17; refine (eqProgram_any p (some ⟨g3, 0, none⟩) (some ⟨g4, 0, none⟩) (some ⟨g5, 0, none⟩) (some ⟨g6, 0, none⟩) p.types.length p.body.length p.types.length p.body.length w6 z1 z2 he1.any he2.any hs1 hs3).mono ?_; rintro e w7 ⟨rfl, hg7⟩))
      all_goals
        go_wp2_with fail
        go_meet
        exact ⟨rfl, (hG5.drew.trans0 hg6).trans0 hg7⟩
    case rest =>
      obtain ⟨rfl, hG⟩ := hcut
      go_wp2_with fail
      go_ret
      exact ⟨rfl, hG⟩
end Go.Proofs.Ytgphnpljjilfjaa
