/- The law FnExactOpenIssues: the walk of the law's own function. For every program, list (and all numbers) it returns true and writes nothing that was there. -/
import Derived.Test.YtadlnjglpigjmaaEK

import Derived.Test.YtadlnjglpigjmaaM3

import Derived.Test.YtadlnjglpigjmaaA3

namespace Go.Proofs.Ytadlnjglpigjmaa

open Go.RowKit

/-- What the marks are written over: the blocks from one number on, up to another. -/
def BetweenOpenIssues (lo hi k : Nat) : Prop := lo ≤ k ∧ k < hi
set_option maxRecDepth 100000 in
set_option maxHeartbeats 4000000 in
theorem fnExactOpenIssues_walk (p : Pr) (l : List Int) (at' ab al : Option Addr) (ct cb cl : Nat) (w : World) (hT : InAt w Any p.types at') (hB : SlAt w Any p.body ab) (hI : InAt w Any l al) (hlt : p.types.length ≤ maxLen) (hlb : p.body.length ≤ maxLen) (hll : l.length ≤ maxLen) :
    Calls Try.prog 8 #[.agg #[.slice at' p.types.length ct, .slice ab p.body.length cb], .slice al l.length cl] w fun e w' => e = .returned (.bool true) ∧ Gr w w' none := by
  have hg1 : ∀ o, Gr w (w.alloc o) none := fun o => (Gr.refl _ _).alloc _
  unfold maxLen at hll
  by_cases hbig : 1048576 < l.length
  · go_enter Try.func8, Try.ntmps8
    go_wp2_with fail
    go_ret
    exact ⟨rfl, hg1 _⟩
  have hlen : l.length ≤ 1048576 := by omega
  clear hbig hll
  obtain ⟨L, hLd⟩ : ∃ L, openOf p l = L := ⟨_, rfl⟩
  have HL := Lib.hid hLd
  have hLl : L.length ≤ 1048576 := by rw [← hLd]; exact (openOf_len p l)
  clear hLd
  go_enter Try.func8, Try.ntmps8
  go_wp2_with fail
  refine (szProgram_any p at' ab ct cb _ (hB.gr0 (hg1 _)) hlt hlb).mono ?_
  rintro e w1 ⟨r, rfl, hr, hg⟩
  have hG1 : Gr w w1 none := (hg1 _).trans0 hg
  have q0 : w1.cell? ⟨w.heap.size, 0, none⟩ = some (.slice at' p.types.length ct) := hg.cell (p := ⟨w.heap.size, 0, none⟩) (cell?_new2 _ _).1 (by simp)
  have q1 : w1.cell? ⟨w.heap.size, 1, none⟩ = some (.slice ab p.body.length cb) := hg.cell (p := ⟨w.heap.size, 1, none⟩) (cell?_new2 _ _).2 (by simp)
  have hsz1 : w.heap.size < w1.heap.size := lt_of_cell q0
  clear hg
  by_cases hneg : r < 0
  · clear hr
    go_wp2_with fail
    go_ret
    exact ⟨rfl, hG1⟩
  · have hsz : p.size ≤ 1048576 := by omega
    obtain ⟨hs1, hs2, hs3⟩ := Pr.size_le hsz
    clear hr
    go_wp2_with fail
    refine (toProgram_any p at' ab ct cb _ (hT.gr0 hG1) (hB.gr0 hG1) hsz).mono ?_
    rintro e w2 ⟨g1, g2, rfl, hc1, hc2, hg2, -⟩
    have hG2 : Gr w w2 none := hG1.trans0 hg2
    replace q0 := hg2.cell q0 (by simp)
    replace q1 := hg2.cell q1 (by simp)
    have hsz2 := hg2.size
    clear hg2
    go_wp2_with fail
    refine (toIntS_any l al cl _ (hI.gr0 hG2) hlen).mono ?_
    rintro e wt ⟨gt, rfl, hti, hgt, -⟩
    have hGt : Gr w wt none := hG2.trans0 hgt
    replace q0 := hgt.cell q0 (by simp)
    replace q1 := hgt.cell q1 (by simp)
    have hszt := hgt.size
    replace hc1 := hc1.any.gr0 hgt
    replace hc2 := hc2.any.gr0 hgt
    clear hgt
    go_wp2_with fail
    refine (specOpenIssues_any p l _ _ _ _ _ _ _ hc1 hc2 hs1 hs2 hti.any hlen).mono ?_
    rw [HL.out]
    rintro e w3 ⟨sa, sc, rfl, hSA, hSB, -, hg3⟩
    have hG3 : Gr w w3 none := hGt.trans0 hg3
    replace q0 := hg3.cell q0 (by simp)
    replace q1 := hg3.cell q1 (by simp)
    have hsz3 := hg3.size
    clear hg3 hc1 hc2 hti
    go_wp2_with fail
    refine (toProgram_any p at' ab ct cb _ (hT.gr0 hG3) (hB.gr0 hG3) hsz).mono ?_
    rintro e w4 ⟨g3, g4, rfl, hd1, hd2, hg4, hu4⟩
    have hG4 : Gr w w4 none := hG3.trans0 hg4
    replace q0 := hg4.cell q0 (by simp)
    replace q1 := hg4.cell q1 (by simp)
    have hSA4 : InAt w4 (fun b _ => ob sa = some b) L sa := hSA.block.gr0 hg4
    have hsz4 := hg4.size
    have HU4 := Lib.hid hu4
    clear hg4 hu4 hSA
    have hga : ∀ o, Gr w4 (w4.alloc o) none := fun o => (Gr.refl _ _).alloc _
    go_wp2_with fail
    refine (toIntS_any l al cl _ (hI.gr0 (hG4.trans0 (hga _))) hlen).mono ?_
    rintro e wz ⟨gz, rfl, hzi, hgz, huz⟩
    have hGz : Gr w wz none := (hG4.alloc _).trans0 hgz
    have x0 : wz.cell? ⟨w4.heap.size, 0, none⟩ = some (.slice (some ⟨g3, 0, none⟩) p.types.length p.types.length) := hgz.cell (p := ⟨w4.heap.size, 0, none⟩) (cell?_new2 _ _).1 (by simp)
    have x1 : wz.cell? ⟨w4.heap.size, 1, none⟩ = some (.slice (some ⟨g4, 0, none⟩) p.body.length p.body.length) := hgz.cell (p := ⟨w4.heap.size, 1, none⟩) (cell?_new2 _ _).2 (by simp)
    replace q0 := hgz.cell ((hga _).cell q0 (by simp)) (by simp)
    replace q1 := hgz.cell ((hga _).cell q1 (by simp)) (by simp)
    have hszz : w4.heap.size + 1 ≤ wz.heap.size := by have := hgz.size; simpa using this
    have hlowz : (w4.alloc (.cells #[.slice (some ⟨g3, 0, none⟩) p.types.length p.types.length, .slice (some ⟨g4, 0, none⟩) p.body.length p.body.length] 30)).heap.size = w4.heap.size + 1 := by simp
    have HX1 := Lib.hid (show InAt wz Any p.types (some ⟨g3, 0, none⟩) from hd1.any.gr0 ((hga _).trans0 hgz))
    have HX2 := Lib.hid (show SlAt wz Any p.body (some ⟨g4, 0, none⟩) from hd2.any.gr0 ((hga _).trans0 hgz))
    have HP1 := Lib.hid (show IntsAt wz (BetweenOpenIssues w3.heap.size w4.heap.size) p.types.length (some ⟨g3, 0, none⟩) from (InAt.ints (InAt.lt _ _ hd1) (fun b o h => ⟨h.1, h.2⟩)).gr ((hga _).trans0 hgz))
    have HP2 := Lib.hid (show SlSh wz (BetweenOpenIssues w3.heap.size w4.heap.size) p.body (some ⟨g4, 0, none⟩) from SlSh.gr ((hga _).trans0 hgz) _ _ (SlAt.sh (fun b o h => ⟨h.1.1, h.2⟩) _ _ (SlAt.lt _ _ hd2)))
    have HPF := Lib.hid (show ∀ a : Addr, BetweenOpenIssues w3.heap.size w4.heap.size a.block → wz.frozen? a = false from fun a ha => (hgz.frozen (by have := ha.2; simp; omega) (by simp)).trans ((frozen?_alloc_cells _ _ _ _).trans (HU4.out a ha.1)))
    have HZ := Lib.hid (show InAt wz (fun b _ => w4.heap.size + 1 ≤ b ∧ b < wz.heap.size) l (some ⟨gz, 0, none⟩) from (InAt.mono (fun b _ h => ⟨by have := h.1; simp at this; omega, h.2⟩) (fun _ _ _ _ h => h) _ _ (InAt.lt _ _ hzi)))
    have HZF := Lib.hid (show ∀ a : Addr, BetweenOpenIssues (w4.heap.size + 1) wz.heap.size a.block → wz.frozen? a = false from fun a ha => huz a (by have := ha.1; simp; omega))
    have HSAz := Lib.hid (show InAt wz (fun b _ => ob sa = some b) L sa from hSA4.gr0 ((hga _).trans0 hgz))
    clear hgz hd1 hd2 huz hzi hSA4 hlowz HU4
    have hcap : l.length ≤ l.length := Nat.le_refl _
    go_wp2_with fail
    refine (implOpenIssues_any p l _ _ _ _ _ _ _ HX1.out HX2.out hs1 hs3 HZ.out.any hlen).mono ?_
    rw [HL.out]
    rintro e w5 ⟨ia, ic, rfl, hIA, hIB, hIF, hg5⟩
    have hG5 : Gr w w5 none := hGz.trans0 hg5
    replace q0 := hg5.cell q0 (by simp)
    replace q1 := hg5.cell q1 (by simp)
    replace x0 := hg5.cell x0 (by simp)
    replace x1 := hg5.cell x1 (by simp)
    have hx1 : InAt w5 Any p.types (some ⟨g3, 0, none⟩) := HX1.out.gr0 hg5
    have hx2 : SlAt w5 Any p.body (some ⟨g4, 0, none⟩) := HX2.out.gr0 hg5
    have hSA5 : InAt w5 (fun b _ => ob sa = some b) L sa := HSAz.out.gr0 hg5
    have HG5 := Lib.hid hg5
    have hsz5 := hg5.size
    have HIF := Lib.hid hIF
    have HIB := Lib.hid hIB
    have HSB := Lib.hid hSB
    clear hg5 hIF hIB hSB
    go_wp2_with fail
    refine (eqIntS_any L _ _ _ _ _ hIA hSA5.any hLl).mono ?_
    rintro e w6 ⟨rfl, hg6⟩
    have hG6 : Gr w w6 none := hG5.trans0 hg6
    replace q0 := hg6.cell q0 (by simp)
    replace q1 := hg6.cell q1 (by simp)
    replace x0 := hg6.cell x0 (by simp)
    replace x1 := hg6.cell x1 (by simp)
    go_upto_region 13 with fail
    go_cut [42] (fun s wx => s = .bool false ∧ Gr w6 wx none)
    case first =>
      go_region_with (first | (go_at_call 18; refine (toProgram_any p at' ab ct cb _ (by exact hT.gr0 hG6.drew) (by exact hB.gr0 hG6.drew) hsz).mono ?_; rintro e w7 ⟨g5, g6, rfl, he1, he2, hg7, -⟩; have y0 := hg7.cell x0 (by simp); have y1 := hg7.cell x1 (by simp); have z1 : InAt w7 Any p.types (some ⟨g3, 0, none⟩) := (hx1.gr0 (hg6.drew)).gr0 hg7; have z2 : SlAt w7 Any p.body (some ⟨g4, 0, none⟩) := (hx2.gr0 (hg6.drew)).gr0 hg7) | (go_at_call 21; refine (eqProgram_any p (some ⟨g3, 0, none⟩) (some ⟨g4, 0, none⟩) (some ⟨g5, 0, none⟩) (some ⟨g6, 0, none⟩) p.types.length p.body.length p.types.length p.body.length w7 z1 z2 he1.any he2.any hs1 hs3).mono ?_; rintro e w8 ⟨rfl, hg8⟩))
      all_goals
        go_wp2_with fail
        go_meet
        exact ⟨rfl, ((Gr.refl _ _).drew.trans0 hg7).trans0 hg8⟩
    case rest =>
      rename World => wx
      obtain ⟨rfl, hgx⟩ := hcut
      have h5x : Gr w5 wx none := hg6.trans0 hgx
      have hGx : Gr w wx none := hG5.trans0 h5x
      replace q0 := hgx.cell q0 (by simp)
      replace q1 := hgx.cell q1 (by simp)
      replace x0 := hgx.cell x0 (by simp)
      replace x1 := hgx.cell x1 (by simp)
      have hszx := h5x.size
      clear hx1 hx2 hg6 hgx
      go_wp2_with fail
      refine (toIntS_any l al cl _ (hI.gr0 hGx) hlen).mono ?_
      rintro e wu ⟨gu, rfl, hui, hgu, -⟩
      have h5u : Gr w5 wu none := h5x.trans0 hgu
      have hGu : Gr w wu none := hGx.trans0 hgu
      replace q0 := hgu.cell q0 (by simp)
      replace q1 := hgu.cell q1 (by simp)
      replace x0 := hgu.cell x0 (by simp)
      replace x1 := hgu.cell x1 (by simp)
      clear hgu
      go_wp2_with fail
      refine (eqIntS_any l _ _ _ _ _ (HZ.out.any.gr0 (HG5.out.trans0 h5u)) hui.any hlen).mono ?_
      rintro e wv ⟨rfl, hgv⟩
      have h5v : Gr w5 wv none := h5u.trans0 hgv
      have hGv : Gr w wv none := hGu.trans0 hgv
      have hzv : Gr wz wv none := HG5.out.trans0 h5v
      replace q0 := hgv.cell q0 (by simp)
      replace q1 := hgv.cell q1 (by simp)
      replace x0 := hgv.cell x0 (by simp)
      replace x1 := hgv.cell x1 (by simp)
      have hszv := h5v.size
      clear hgv hui
      go_wp2_with fail
      refine (markProgramB_any (BetweenOpenIssues w3.heap.size w4.heap.size) p _ _ _ _ _ (HP1.out.gr hzv) (SlSh.gr hzv _ _ HP2.out) (by
        intro a ha
        have h1 := ha.2
        exact (hzv.frozen (by omega) (by simp)).trans (HPF.out a ha)) hsz).mono ?_
      rintro e wb ⟨mr, rfl, hmr, hmr2, wa, hxa, hab⟩
      have hGa : Gr w wa none := hGv.trans0 hxa
      have hGb : Gr w wb none := hab.gr hGa (fun k hk => by have := hk.1; have := hG3.size; omega)
      have hIAb : InAt wb (fun b _ => ob ia = some b) L ia := (hIA.block.gr0 (h5v.trans0 hxa)).wr hab (fun b _ hb hk => by have := (HIB.out b hb).1; have := hk.2; omega)
      have hSAb : InAt wb (fun b _ => ob sa = some b) L sa := (hSA5.gr0 (h5v.trans0 hxa)).wr hab (fun b _ hb hk => by have := (HSB.out b hb).2; have := hk.1; omega)
      have hTb : InAt wb (fun b _ => b < w.heap.size) p.types at' := ((InAt.mono (fun _ _ h => h.2) (fun _ _ _ _ h => h) _ _ (InAt.lt _ _ hT)).gr0 hGa).wr hab (fun b _ hb hk => by have := hk.1; omega)
      have hBb : SlAt wb (fun b _ => b < w.heap.size) p.body ab := ((SlAt.mono (fun _ _ h => h.2) (fun _ _ _ _ _ _ h => h) _ _ (SlAt.lt _ _ hB)).gr0 hGa).wr hab (fun b _ hb hk => by have := hk.1; omega)
      have hLb : InAt wb (fun b _ => b < w.heap.size) l al := ((InAt.mono (fun _ _ h => h.2) (fun _ _ _ _ h => h) _ _ (InAt.lt _ _ hI)).gr0 hGa).wr hab (fun b _ hb hk => by have := hk.1; omega)
      have hZb : InAt wb (fun b _ => w4.heap.size + 1 ≤ b ∧ b < wz.heap.size) l (some ⟨gz, 0, none⟩) := (HZ.out.gr0 (hzv.trans0 hxa)).wr hab (fun b _ hb hk => by have := hb.1; have := hk.2; omega)
      have hIFb : ∀ a : Addr, ob ia = some a.block → wb.frozen? a = false := by
        intro a ha
        have h1 := HIB.out _ ha
        exact (hab.frz a).trans (((h5v.trans0 hxa).frozen h1.2 (by simp)).trans (HIF.out a ha))
      have hZFb : ∀ a : Addr, BetweenOpenIssues (w4.heap.size + 1) wz.heap.size a.block → wb.frozen? a = false := by
        intro a ha
        exact (hab.frz a).trans (((hzv.trans0 hxa).frozen ha.2 (by simp)).trans (HZF.out a ha))
      replace q0 := hab.cell (hxa.cell q0 (by simp)) (fun hk => by have h1 := hk.1; first | omega | (simp at h1; omega))
      replace q1 := hab.cell (hxa.cell q1 (by simp)) (fun hk => by have h1 := hk.1; first | omega | (simp at h1; omega))
      have hszb : wv.heap.size ≤ wb.heap.size := by rw [hab.size]; exact hxa.size
      have HIFb := Lib.hid hIFb
      have HZFb := Lib.hid hZFb
      clear hxa hab hIFb hZFb hGa x0 x1 hIA hSA5 hzv
      go_wp2_with fail
      refine (markIntS_any (BetweenOpenIssues (w4.heap.size + 1) wz.heap.size) l.length (some ⟨gz, 0, none⟩) l.length mr _ (InAt.ints hZb (fun _ _ h => h)) HZFb.out hlen hmr (by omega)).mono ?_
      rintro e wk ⟨rfl, hbk, -⟩
      have hGk : Gr w wk none := hbk.gr hGb (fun k hk => by have := hk.1; have := hG4.size; omega)
      have hIAk : InAt wk (fun b _ => ob ia = some b) L ia := hIAb.wr hbk (fun b _ hb hk => by have := (HIB.out b hb).1; have := hk.2; omega)
      have hSAk : InAt wk (fun b _ => ob sa = some b) L sa := hSAb.wr hbk (fun b _ hb hk => by have := (HSB.out b hb).2; have := hk.1; omega)
      have hTk : InAt wk (fun b _ => b < w.heap.size) p.types at' := hTb.wr hbk (fun b _ hb hk => by have := hk.1; have := hG4.size; omega)
      have hBk : SlAt wk (fun b _ => b < w.heap.size) p.body ab := hBb.wr hbk (fun b _ hb hk => by have := hk.1; have := hG4.size; omega)
      have hLk : InAt wk (fun b _ => b < w.heap.size) l al := hLb.wr hbk (fun b _ hb hk => by have := hk.1; have := hG4.size; omega)
      have HIFk := Lib.hid (show ∀ a : Addr, ob ia = some a.block → wk.frozen? a = false from fun a ha => (hbk.frz a).trans (HIFb.out a ha))
      replace q0 := hbk.cell q0 (fun hk => by have h1 := hk.1; have := hG4.size; first | omega | (simp at h1; omega))
      replace q1 := hbk.cell q1 (fun hk => by have h1 := hk.1; have := hG4.size; first | omega | (simp at h1; omega))
      have hszk : wb.heap.size ≤ wk.heap.size := by rw [hbk.size]; exact Nat.le_refl _
      have hmk : 0 ≤ mr + (l.length : Int) := by omega
      clear hbk hIAb hSAb hTb hBb hLb hZb
      go_wp2_with fail
      refine (eqIntS_any L _ _ _ _ _ hIAk.any hSAk.any hLl).mono ?_
      rintro e wc ⟨rfl, hgc⟩
      have hGc : Gr w wc none := hGk.trans0 hgc
      replace q0 := hgc.cell q0 (by simp)
      replace q1 := hgc.cell q1 (by simp)
      have hszc := hgc.size
      go_wp2_with fail
      refine (markIntS_any (fun k => ob ia = some k) L.length ia ic 1 _ ((InAt.ints hIAk (fun _ _ h => h)).gr hgc) (fun a ha => (hgc.frozen (by have := (HIB.out _ ha).2; omega) (by simp)).trans (HIFk.out a ha)) hLl (by omega) (by omega)).mono ?_
      rintro e wd ⟨rfl, hcd, hMd⟩
      have hlow : ∀ g, ob ia = some g → w4.heap.size < g := fun g hg => by have := (HIB.out g hg).1; omega
      have hGd : Gr w wd none := hcd.gr hGc (fun k hk => by have := hlow k hk; have := hG4.size; omega)
      have hSAd : InAt wd (fun b _ => ob sa = some b) L sa := (hSAk.gr0 hgc).wr hcd (fun b _ hb hk => by have := (HSB.out b hb).2; have := hlow b hk; omega)
      have hTd : InAt wd (fun b _ => b < w.heap.size) p.types at' := (hTk.gr0 hgc).wr hcd (fun b _ hb hk => by have := hlow b hk; have := hG4.size; omega)
      have hBd : SlAt wd (fun b _ => b < w.heap.size) p.body ab := (hBk.gr0 hgc).wr hcd (fun b _ hb hk => by have := hlow b hk; have := hG4.size; omega)
      have hLd : InAt wd (fun b _ => b < w.heap.size) l al := (hLk.gr0 hgc).wr hcd (fun b _ hb hk => by have := hlow b hk; have := hG4.size; omega)
      replace q0 := hcd.cell q0 (fun hk => by have h1 := hlow _ hk; have := hG4.size; first | omega | (simp at h1; omega))
      replace q1 := hcd.cell q1 (fun hk => by have h1 := hlow _ hk; have := hG4.size; first | omega | (simp at h1; omega))
      clear hcd hgc hIAk hSAk hTk hBk hLk hlow
      go_wp2_with fail
      refine (heldIntS_any L.length ia ic 1 _ hMd.any hLl (by omega) (by omega)).mono ?_
      rintro e we ⟨rfl, rfl⟩
      go_wp2_with fail
      refine (toProgram_any p at' ab ct cb _ hTd.any hBd.any hsz).mono ?_
      rintro e wf ⟨g7, g8, rfl, hk1, hk2, hgf, -⟩
      have hGf : Gr w wf none := hGd.trans0 hgf
      clear q0 q1
      go_wp2_with fail
      refine (toIntS_any l al cl _ (hLd.any.gr0 hgf) hlen).mono ?_
      rintro e wo ⟨go, rfl, hoi, hgo, -⟩
      have hGo : Gr w wo none := hGf.trans0 hgo
      have hfo : Gr wd wo none := hgf.trans0 hgo
      have hI' : InAt wo Any l (some ⟨go, 0, none⟩) := hoi.any
      clear hgf
      go_wp2_with fail
      refine (implOpenIssues_any p l _ _ _ _ _ _ _ (hk1.any.gr0 hgo) (hk2.any.gr0 hgo) hs1 hs3 hI' hlen).mono ?_
      rw [HL.out]
      rintro e wg ⟨ja, jc, rfl, hJA, -, -, hgg⟩
      go_wp2_with fail
      refine (eqIntS_any L _ _ _ _ _ hJA ((hSAd.gr0 hfo).gr0 hgg).any hLl).mono ?_
      rintro e wh ⟨rfl, hgh⟩
      go_wp2_with fail
      refine (heldIntS_any L.length ia ic 1 _ (((hMd.any.gr0 hfo).gr0 hgg).gr0 hgh) hLl (by omega) (by omega)).mono ?_
      rintro e wi ⟨rfl, rfl⟩
      go_wp2_with fail
      go_ret
      exact ⟨rfl, (hGo.trans0 hgg).trans0 hgh⟩
end Go.Proofs.Ytadlnjglpigjmaa
