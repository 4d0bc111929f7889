/- The law FnExactPathsTo: the walk of the law's own function. For every program (and all numbers) it returns true and writes nothing that was there. -/
import Derived.Test.YtgphnpljjilfjaaN5

import Derived.Test.YtgphnpljjilfjaaM3

import Derived.Test.YtgphnpljjilfjaaA3

namespace Go.Proofs.Ytgphnpljjilfjaa

open Go.RowKit

/-- What the marks are written over: the blocks from one number on, up to another. -/
def BetweenPathsTo (lo hi k : Nat) : Prop := lo ≤ k ∧ k < hi
set_option maxRecDepth 100000 in
set_option maxHeartbeats 4000000 in
theorem fnExactPathsTo_walk (p : Pr) (i0 : Int) (at' ab : Option Addr) (ct cb : Nat) (w : World) (hT : InAt w Any p.types at') (hB : SlAt w Any p.body ab) (hlt : p.types.length ≤ maxLen) (hlb : p.body.length ≤ maxLen) :
    Calls Try.prog 10 #[.agg #[.slice at' p.types.length ct, .slice ab p.body.length cb], .int .i64 i0] w fun e w' => e = .returned (.bool true) ∧ Gr w w' none := by
  have hg1 : ∀ o, Gr w (w.alloc o) none := fun o => (Gr.refl _ _).alloc _
  obtain ⟨L, hLd⟩ : ∃ L, pathsTo p i0 = L := ⟨_, rfl⟩
  have HL := Lib.hid hLd
  have hLl : L.length ≤ 1048576 := by rw [← hLd]; exact pathsTo_len p i0
  clear hLd
  go_enter Try.func10, Try.ntmps10
  go_wp2_with fail
  refine (szProgram_any p at' ab ct cb _ (hB.gr0 (hg1 _)) hlt hlb).mono ?_
  rintro e w1 ⟨r, rfl, hr, hg⟩
  have hG1 : Gr w w1 none := (hg1 _).trans0 hg
  have q0 : w1.cell? ⟨w.heap.size, 0, none⟩ = some (.slice at' p.types.length ct) := hg.cell (p := ⟨w.heap.size, 0, none⟩) (cell?_new2 _ _).1 (by simp)
  have q1 : w1.cell? ⟨w.heap.size, 1, none⟩ = some (.slice ab p.body.length cb) := hg.cell (p := ⟨w.heap.size, 1, none⟩) (cell?_new2 _ _).2 (by simp)
  have hsz1 : w.heap.size < w1.heap.size := lt_of_cell q0
  clear hg
  by_cases hneg : r < 0
  · clear hr
    go_wp2_with fail
    go_ret
    exact ⟨rfl, hG1⟩
  · have hsz : p.size ≤ 1048576 := by omega
    obtain ⟨hs1, hs2, hs3⟩ := Pr.size_le hsz
    clear hr
    go_wp2_with fail
    refine (toProgram_any p at' ab ct cb _ (hT.gr0 hG1) (hB.gr0 hG1) hsz).mono ?_
    rintro e w2 ⟨g1, g2, rfl, hc1, hc2, hg2, -⟩
    have hG2 : Gr w w2 none := hG1.trans0 hg2
    replace q0 := hg2.cell q0 (by simp)
    replace q1 := hg2.cell q1 (by simp)
    have hsz2 := hg2.size
    clear hg2
    go_wp2_with fail
    refine (specPathsTo_any p i0 _ _ _ _ _ hc1.any hc2.any hs1 hs2).mono ?_
    rw [HL.out]
    rintro e w3 ⟨sa, sc, rfl, hSA, hSB, -, hg3⟩
    have hG3 : Gr w w3 none := hG2.trans0 hg3
    replace q0 := hg3.cell q0 (by simp)
    replace q1 := hg3.cell q1 (by simp)
    have hsz3 := hg3.size
    clear hg3 hc1 hc2
    go_wp2_with fail
    refine (toProgram_any p at' ab ct cb _ (hT.gr0 hG3) (hB.gr0 hG3) hsz).mono ?_
    rintro e w4 ⟨g3, g4, rfl, hd1, hd2, hg4, hu4⟩
    have hG4 : Gr w w4 none := hG3.trans0 hg4
    replace q0 := hg4.cell q0 (by simp)
    replace q1 := hg4.cell q1 (by simp)
    have hSA4 : InAt w4 (fun b _ => ob sa = some b) L sa := hSA.block.gr0 hg4
    have hsz4 := hg4.size
    have h34 := hg4
    clear hg4
    go_wp2_with fail
    have hga : ∀ o, Gr w4 (w4.alloc o) none := fun o => (Gr.refl _ _).alloc _
    refine (implPathsTo_any p i0 _ _ _ _ _ (hd1.any.gr0 (hga _)) (hd2.any.gr0 (hga _)) hs1 hs3).mono ?_
    rw [HL.out]
    rintro e w5 ⟨ia, ic, rfl, hIA, hIB, hIF, hg5⟩
    have hG5 : Gr w w5 none := (hG4.alloc _).trans0 hg5
    replace q0 := hg5.cell ((hga _).cell q0 (by simp)) (by simp)
    replace q1 := hg5.cell ((hga _).cell q1 (by simp)) (by simp)
    have x0 : w5.cell? ⟨w4.heap.size, 0, none⟩ = some (.slice (some ⟨g3, 0, none⟩) p.types.length p.types.length) := hg5.cell (p := ⟨w4.heap.size, 0, none⟩) (cell?_new2 _ _).1 (by simp)
    have x1 : w5.cell? ⟨w4.heap.size, 1, none⟩ = some (.slice (some ⟨g4, 0, none⟩) p.body.length p.body.length) := hg5.cell (p := ⟨w4.heap.size, 1, none⟩) (cell?_new2 _ _).2 (by simp)
    have hx1 : InAt w5 Any p.types (some ⟨g3, 0, none⟩) := hd1.any.gr0 ((hga _).trans0 hg5)
    have hx2 : SlAt w5 Any p.body (some ⟨g4, 0, none⟩) := hd2.any.gr0 ((hga _).trans0 hg5)
    have hP1 : IntsAt w5 (BetweenPathsTo w3.heap.size w4.heap.size) p.types.length (some ⟨g3, 0, none⟩) := (InAt.ints (InAt.lt _ _ hd1) (fun b o h => ⟨h.1, h.2⟩)).gr ((hga _).trans0 hg5)
    have hP2 : SlSh w5 (BetweenPathsTo w3.heap.size w4.heap.size) p.body (some ⟨g4, 0, none⟩) := SlSh.gr ((hga _).trans0 hg5) _ _ (SlAt.sh (fun b o h => ⟨h.1.1, h.2⟩) _ _ (SlAt.lt _ _ hd2))
    have hPF : ∀ a : Addr, BetweenPathsTo w3.heap.size w4.heap.size a.block → w5.frozen? a = false := fun a ha => (hg5.frozen (by have := ha.2; simp; omega) (by simp)).trans ((frozen?_alloc_cells _ _ _ _).trans (hu4 a ha.1))
    have hSA5 : InAt w5 (fun b _ => ob sa = some b) L sa := hSA4.gr0 ((hga _).trans0 hg5)
    have hga5 : Gr w5 w5.drew none := (Gr.refl _ _).drew
    have hsz5 : w4.heap.size < w5.heap.size := by have := hg5.size; simp at this; omega
    have HPF := Lib.hid hPF
    have HIF := Lib.hid hIF
    have HIB := Lib.hid hIB
    have HSB := Lib.hid hSB
    clear hg5 hd1 hd2 hu4 hSA hPF hIF hIB hSB
    go_wp2_with fail
    refine (eqIntS_any L _ _ _ _ _ hIA hSA5.any hLl).mono ?_
    rintro e w6 ⟨rfl, hg6⟩
    have hG6 : Gr w w6 none := hG5.trans0 hg6
    replace q0 := hg6.cell q0 (by simp)
    replace q1 := hg6.cell q1 (by simp)
    replace x0 := hg6.cell x0 (by simp)
    replace x1 := hg6.cell x1 (by simp)
    go_upto_region 10 with fail
    go_cut [35] (fun s wx => s = .bool false ∧ Gr w6 wx none)
    case first =>
      go_region_with (first | (go_at_call 15; refine (toProgram_any p at' ab ct cb _ (by exact hT.gr0 hG6.drew) (by exact hB.gr0 hG6.drew) hsz).mono ?_; rintro e w7 ⟨g5, g6, rfl, he1, he2, hg7, -⟩; have y0 := hg7.cell x0 (by simp); have y1 := hg7.cell x1 (by simp); have z1 : InAt w7 Any p.types (some ⟨g3, 0, none⟩) := (hx1.gr0 (hg6.drew)).gr0 hg7; have z2 : SlAt w7 Any p.body (some ⟨g4, 0, none⟩) := (hx2.gr0 (hg6.drew)).gr0 hg7) | (go_at_call 17; refine (eqProgram_any p (some ⟨g3, 0, none⟩) (some ⟨g4, 0, none⟩) (some ⟨g5, 0, none⟩) (some ⟨g6, 0, none⟩) p.types.length p.body.length p.types.length p.body.length w7 z1 z2 he1.any he2.any hs1 hs3).mono ?_; rintro e w8 ⟨rfl, hg8⟩))
      all_goals
        go_wp2_with fail
        go_meet
        exact ⟨rfl, ((Gr.refl _ _).drew.trans0 hg7).trans0 hg8⟩
    case rest =>
      rename World => wx
      obtain ⟨rfl, hgx⟩ := hcut
      have h5x : Gr w5 wx none := hg6.trans0 hgx
      have hGx : Gr w wx none := hG5.trans0 h5x
      replace q0 := hgx.cell q0 (by simp)
      replace q1 := hgx.cell q1 (by simp)
      replace x0 := hgx.cell x0 (by simp)
      replace x1 := hgx.cell x1 (by simp)
      have hszx := h5x.size
      clear hx1 hx2 hg6 hgx
      go_wp2_with fail
      refine (markProgram_any (BetweenPathsTo w3.heap.size w4.heap.size) p _ _ _ _ _ (hP1.gr h5x) (SlSh.gr h5x _ _ hP2) (by
        intro a ha
        have h1 := ha.2
        exact (h5x.frozen (by omega) (by simp)).trans (HPF.out a ha)) hsz).mono ?_
      rintro e wb ⟨mr, rfl, hmr, wa, hxa, hab⟩
      have hGa : Gr w wa none := hGx.trans0 hxa
      have hGb : Gr w wb none := hab.gr hGa (fun k hk => by have := hk.1; have := hG3.size; omega)
      have hIAb : InAt wb (fun b _ => ob ia = some b) L ia := (hIA.block.gr0 (h5x.trans0 hxa)).wr hab (fun b _ hb hk => by have := (HIB.out b hb).1; have := hk.2; simp at *; omega)
      have hSAb : InAt wb (fun b _ => ob sa = some b) L sa := (hSA5.gr0 (h5x.trans0 hxa)).wr hab (fun b _ hb hk => by have := (HSB.out b hb).2; have := hk.1; omega)
      have hTb : InAt wb (fun b _ => b < w.heap.size) p.types at' := ((InAt.mono (fun _ _ h => h.2) (fun _ _ _ _ h => h) _ _ (InAt.lt _ _ hT)).gr0 hGa).wr hab (fun b _ hb hk => by have := hk.1; omega)
      have hBb : SlAt wb (fun b _ => b < w.heap.size) p.body ab := ((SlAt.mono (fun _ _ h => h.2) (fun _ _ _ _ _ _ h => h) _ _ (SlAt.lt _ _ hB)).gr0 hGa).wr hab (fun b _ hb hk => by have := hk.1; omega)
      have hIFb : ∀ a : Addr, ob ia = some a.block → wb.frozen? a = false := by
        intro a ha
        have h1 := HIB.out _ ha
        exact (hab.frz a).trans (((h5x.trans0 hxa).frozen h1.2 (by simp)).trans (HIF.out a ha))
      replace q0 := hab.cell (hxa.cell q0 (by simp)) (fun hk => by have := hk.1; simp at this; omega)
      replace q1 := hab.cell (hxa.cell q1 (by simp)) (fun hk => by have := hk.1; simp at this; omega)
      have hszb : wx.heap.size ≤ wb.heap.size := by rw [hab.size]; exact hxa.size
      have HIFb := Lib.hid hIFb
      clear hxa hab hIFb hGa x0 x1 hIA hSA5 hP1 hP2
      go_wp2_with fail
      refine (eqIntS_any L _ _ _ _ _ hIAb.any hSAb.any hLl).mono ?_
      rintro e wc ⟨rfl, hgc⟩
      have hGc : Gr w wc none := hGb.trans0 hgc
      replace q0 := hgc.cell q0 (by simp)
      replace q1 := hgc.cell q1 (by simp)
      have hszc := hgc.size
      go_wp2_with fail
      refine (markIntS_any (fun k => ob ia = some k) L.length ia ic 1 _ ((InAt.ints hIAb (fun _ _ h => h)).gr hgc) (fun a ha => (hgc.frozen (by have := (HIB.out _ ha).2; omega) (by simp)).trans (HIFb.out a ha)) hLl (by omega) (by omega)).mono ?_
      rintro e wd ⟨rfl, hcd, hMd⟩
      have hlow : ∀ g, ob ia = some g → w4.heap.size < g := fun g hg => by have := (HIB.out g hg).1; simp at this; omega
      have hGd : Gr w wd none := hcd.gr hGc (fun k hk => by have := hlow k hk; have := hG4.size; omega)
      have hSAd : InAt wd (fun b _ => ob sa = some b) L sa := (hSAb.gr0 hgc).wr hcd (fun b _ hb hk => by have := (HSB.out b hb).2; have := hlow b hk; omega)
      have hTd : InAt wd (fun b _ => b < w.heap.size) p.types at' := (hTb.gr0 hgc).wr hcd (fun b _ hb hk => by have := hlow b hk; have := hG4.size; omega)
      have hBd : SlAt wd (fun b _ => b < w.heap.size) p.body ab := (hBb.gr0 hgc).wr hcd (fun b _ hb hk => by have := hlow b hk; have := hG4.size; omega)
      replace q0 := hcd.cell q0 (fun hk => by have := hlow _ hk; simp at this; omega)
      replace q1 := hcd.cell q1 (fun hk => by have := hlow _ hk; simp at this; omega)
      clear hcd hgc hIAb hSAb hTb hBb hlow
      go_wp2_with fail
      refine (heldIntS_any L.length ia ic 1 _ hMd.any hLl (by omega) (by omega)).mono ?_
      rintro e we ⟨rfl, rfl⟩
      go_wp2_with fail
      refine (toProgram_any p at' ab ct cb _ hTd.any hBd.any hsz).mono ?_
      rintro e wf ⟨g7, g8, rfl, hk1, hk2, hgf, -⟩
      have hGf : Gr w wf none := hGd.trans0 hgf
      clear q0 q1
      go_wp2_with fail
      refine (implPathsTo_any p i0 _ _ _ _ _ hk1.any hk2.any hs1 hs3).mono ?_
      rw [HL.out]
      rintro e wg ⟨ja, jc, rfl, hJA, -, -, hgg⟩
      go_wp2_with fail
      refine (eqIntS_any L _ _ _ _ _ hJA ((hSAd.gr0 hgf).gr0 hgg).any hLl).mono ?_
      rintro e wh ⟨rfl, hgh⟩
      go_wp2_with fail
      refine (heldIntS_any L.length ia ic 1 _ (((hMd.any.gr0 hgf).gr0 hgg).gr0 hgh) hLl (by omega) (by omega)).mono ?_
      rintro e wi ⟨rfl, rfl⟩
      go_wp2_with fail
      go_ret
      exact ⟨rfl, (hGf.trans0 hgg).trans0 hgh⟩
end Go.Proofs.Ytgphnpljjilfjaa
