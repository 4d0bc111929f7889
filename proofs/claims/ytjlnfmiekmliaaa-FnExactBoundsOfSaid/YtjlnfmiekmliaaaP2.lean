/- The reference's points: the walk of l2Add. -/
import Derived.Test.YtjlnfmiekmliaaaP1
namespace Go.Proofs.Ytjlnfmiekmliaaa
open Go.RowKit

def AddC (n : Nat) : Prop := ∀ (l : List St) (a : Option Addr) (c : Nat) (ao : Option Addr) (cap : Nat) (L0 : List Pt) (base : Nat) (w : World), St.count l ≤ n → L0.length + 2 * n ≤ 10000 → base ≤ w.heap.size → l.length ≤ maxLen →
  SlAt w (Off (ob ao)) l a → PtsOwn w base ao cap L0 →
  Calls Try.prog 93 #[.slice ao L0.length cap, .slice a l.length c] w (Pointed (L0 ++ ptsL l L0.length) base ao w)

theorem if_list2 {L L1 M M3 N N1 : List Pt} {t e : List St} {x y nn : Int} (h1 : L1 = L ++ [⟨9, 0, 0, 0, []⟩]) (h2 : M = L1 ++ ptsL t L1.length) (h3 : M3 = M ++ [⟨10, 0, 0, 1, []⟩]) (h4 : N = M3 ++ ptsL e M3.length)
    (hi : M.length < N.length) (h5 : N.set M.length { N[M.length] with next := [N.length] } = N1) (hm : L.length < N1.length) :
    N1.set L.length { N1[L.length] with next := [L.length + 1, M.length + 1] } = L ++ ptsS (.mk 9 x y nn t e) L.length := by
  have l1 : L1.length = L.length + 1 := by rw [h1]; simp
  have l2 : M.length = L.length + 1 + (ptsL t (L.length + 1)).length := by rw [h2, List.length_append, l1]
  have l3 : M3.length = L.length + 1 + (ptsL t (L.length + 1)).length + 1 := by rw [h3, List.length_append, l2]; rfl
  have l4 : N.length = L.length + 1 + (ptsL t (L.length + 1)).length + 1 + (ptsL e (L.length + 1 + (ptsL t (L.length + 1)).length + 1)).length := by rw [h4, List.length_append, l3]
  have hN : N = L ++ ⟨9, 0, 0, 0, []⟩ :: (ptsL t (L.length + 1) ++ ⟨10, 0, 0, 1, []⟩ :: ptsL e (L.length + 1 + (ptsL t (L.length + 1)).length + 1)) := by
    rw [h4, h3, l3.symm.symm] at *
    rw [h2, l1, h1]
    simp [List.append_assoc]
  have hN' : N = (L ++ ⟨9, 0, 0, 0, []⟩ :: ptsL t (L.length + 1)) ++ ⟨10, 0, 0, 1, []⟩ :: ptsL e (L.length + 1 + (ptsL t (L.length + 1)).length + 1) := by rw [hN]; simp
  have hN1 := (set_mid (ns := [N.length]) hN' (by rw [l2]; simp; omega) hi).symm.trans h5
  have hN1' : N1 = L ++ ⟨9, 0, 0, 0, []⟩ :: (ptsL t (L.length + 1) ++ ⟨10, 0, 0, 1, [N.length]⟩ :: ptsL e (L.length + 1 + (ptsL t (L.length + 1)).length + 1)) := by
    rw [← hN1]; simp
  rw [set_mid (ns := [L.length + 1, M.length + 1]) hN1' rfl hm, l4, l2]
  simp [ptsS, List.append_assoc]
set_option maxRecDepth 100000 in
set_option maxHeartbeats 2000000 in
theorem add_step (n : Nat) (hA : ∀ m, m < n → AddC m) : AddC n := by
  intro l a c ao cap L0 base w hn hN hbase hl hL hP
  have HA := Lib.hid hA
  clear hA
  unfold maxLen at hl
  have hL0 := SlAt.lt l a hL
  clear hL
  go_enter Try.func93, Try.ntmps93
  go_wp2
  go_loopw [0, 5] (fun v i wr => ∃ (k : Nat) (L : List Pt) (a1 : Option Addr) (c1 : Nat), k ≤ l.length ∧ i = .int .i64 k ∧ L = L0 ++ ptsL (l.take k) L0.length ∧ v = .slice a1 L.length c1 ∧ PtsOwn wr base a1 c1 L ∧ Gr w wr (ob ao) ∧ (∀ g, ob a1 = some g → ob ao = some g ∨ w.heap.size ≤ g)) (fun _ i _ => l.length - (intOf i).toNat)
  case atStart => exact ⟨0, L0, ao, cap, Nat.zero_le _, rfl, by simp [ptsL], rfl, hP, Gr.refl _ _, fun g h => .inl h⟩
  case round =>
    obtain ⟨k, L, a1, c1, hk, rfl, hLL, rfl, hPr, hgr, hfr⟩ := hrel
    have HLL := Lib.hid hLL
    have hLlen : L.length ≤ L0.length + 2 * St.count (l.take k) := by
      rw [hLL, List.length_append]; have := ptsL_le (l.take k) L0.length; omega
    clear hLL
    by_cases hlt : k < l.length
    · have hct := count_take_succ hlt
      have hct2 := count_take_le l (k + 1)
      have hLr := hL0.gr hgr (fun b o h => h.1)
      obtain ⟨b, off, rfl, hs⟩ := hLr.at hlt
      obtain ⟨s, es⟩ : ∃ s, l[k] = s := ⟨_, rfl⟩
      rw [es] at hs hct
      have HPT := Lib.hid (ptsL_take hlt L0.length)
      rw [es] at HPT
      clear es
      obtain ⟨_, ht, he, at', ct, ae, ce, c0, c1', c2, c3, c4, c5, r4, r5⟩ := hs.out
      obtain ⟨op, x, y, nn, t, e⟩ := s
      simp only [St.thn, St.els, St.op, St.x, St.y, St.n, St.inner] at *
      have hbw : base ≤ wr.heap.size := by have := hgr.size; omega
      have hLt : L.length ≤ 10000 := by omega
      have hrow1 : ∀ g, ob a1 = some g → g < wr.heap.size := fun g hg => (hPr.row g hg).2.1
      have HS := Lib.hid hrow1
      clear hrow1
      by_cases h9 : op = 9
      · have hop9 : (op == 9) = true := by simpa using h9
        subst h9
        go_wp2_with (at_builtin; refine app_pts wr _ rfl (.tmp 40) (.tmp 42) rfl base a1 c1 L rfl hPr ?g1d (by omega) hbw ⟨9, 0, 0, 0, []⟩ (.slice none 0 0) (wr.heap.size + 1) 1 rfl ?g2d ?g3d ?g4d ?_)
        case g1d => exact ((Gr.refl _ _).alloc _).alloc _
        case g2d => exact heap2_1 _ _ _
        case g3d => exact .inl ⟨rfl, rfl⟩
        case g4d => intro b hb; simp [Value.ownBlock] at hb
        intro L1 g1 cap1 w1 hL1 hown1 hg1 hor1
        have hL1n : L1.length = L.length + 1 := by rw [hL1]; simp
        have hof1 := own_rel hgr hfr hor1 (by omega) g1 rfl
        have hz1 : wr.heap.size + 1 + 1 ≤ w1.heap.size := by have := hg1.size; simpa using this
        have hr1 : ob a1 ≠ some wr.heap.size := fun e => by have := HS.out _ e; simp at this
        have hn1 : g1 ≠ wr.heap.size := by rcases hor1 with q | q; have := HS.out _ q; omega; omega
        have q4 : w1.cell? ⟨wr.heap.size, 4, none⟩ = some (.slice at' t.length ct) := hg1.cell (p := ⟨wr.heap.size, 4, none⟩) (cell_of_row _ _ _ _ _ _ (heap2_0 _ _ _)) hr1
        have q5 : w1.cell? ⟨wr.heap.size, 5, none⟩ = some (.slice ae e.length ce) := hg1.cell (p := ⟨wr.heap.size, 5, none⟩) (cell_of_row _ _ _ _ _ _ (heap2_0 _ _ _)) hr1
        have hG1 : Gr w w1 (ob ao) := ((hgr.alloc _).alloc _).trans hg1 hfr
        have r4' := (r4.gr0 (((Gr.refl _ none).alloc _).alloc _)).gr hg1 (fun b o hd e => by rcases hfr b e with q | q; exact hd.1 q; have := hd.2; omega)
        have r5' := (r5.gr0 (((Gr.refl _ none).alloc _).alloc _)).gr hg1 (fun b o hd e => by rcases hfr b e with q | q; exact hd.1 q; have := hd.2; omega)
        have HL1 := Lib.hid hL1
        have hL1m : L1.length ≤ L.length + 1 := by omega
        have HL1n := Lib.hid hL1n
        clear c0 c1' c2 c3 c4 c5 hs r4 r5 hL1 hL1n hg1 hor1 hPr hr1
        go_wp2_with fail
        refine (HA.out (St.count t) (by omega) t at' ct (some ⟨g1, 0, none⟩) cap1 L1 base w1 (Nat.le_refl _) (by omega) (by omega) ht (d0_off hof1 r4') hown1).mono ?_
        rintro e' w2 ⟨M, a2, c2, hM, rfl, hown2, hg2, hor2⟩
        have hMl : M.length ≤ L1.length + 2 * St.count t ∧ L1.length ≤ M.length := by rw [hM, List.length_append]; have := ptsL_le t L1.length; omega
        obtain ⟨hMl1, hMl2⟩ := hMl
        have HM := Lib.hid hM
        have hof2 := own_next hof1 (by have := hgr.size; omega) hor2
        have hn2 : ob a2 ≠ some wr.heap.size := fun e => by rcases hor2 _ e with q | q; (simp [ob] at q; exact hn1 q); omega
        have hG2 : Gr w w2 (ob ao) := hG1.trans hg2 (by intro r hr; simp [ob] at hr; subst hr; exact hof1)
        have hz2 : w1.heap.size ≤ w2.heap.size := hg2.size
        have q5' : w2.cell? ⟨wr.heap.size, 5, none⟩ = some (.slice ae e.length ce) := hg2.cell q5 (by simp [ob]; exact hn1)
        have r5'' := r5'.gr hg2 (fun b o hd e => by simp [ob] at e; subst e; rcases hof1 with q | q; exact hd.1 q; have := hd.2; omega)
        clear hM hg2 hor2 q4 q5 hown1 r4' r5'
        go_wp2_with (at_builtin; refine app_pts w2 _ rfl (.tmp 50) (.tmp 52) rfl base a2 c2 M rfl hown2 ?g1e (by omega) (by omega) ⟨10, 0, 0, 1, []⟩ (.slice none 0 0) w2.heap.size 1 rfl ?g2e ?g3e ?g4e ?_)
        case g1e => exact (Gr.refl _ _).alloc _
        case g2e => exact heap1_0 _ _
        case g3e => exact .inl ⟨rfl, rfl⟩
        case g4e => intro b hb; simp [Value.ownBlock] at hb
        intro M3 g3 cap3 w3 hM3 hown3 hg3 hor3
        have hM3l : M3.length = M.length + 1 := by rw [hM3]; simp
        have hof3 := own_rel hG2 hof2 hor3 (by omega)
        have hz3 : w2.heap.size + 1 ≤ w3.heap.size := by have := hg3.size; simpa using this
        have hG3 : Gr w w3 (ob ao) := (hG2.alloc _).trans hg3 hof2
        have q5'' : w3.cell? ⟨wr.heap.size, 5, none⟩ = some (.slice ae e.length ce) := hg3.cell (((Gr.refl _ none).alloc _).cell q5' (by simp)) hn2
        have r5c := (r5''.gr0 ((Gr.refl _ none).alloc _)).gr hg3 (fun b o hd e => by rcases hof2 b e with q | q; exact hd.1 q; have := hd.2; omega)
        have hM3m : M3.length ≤ M.length + 1 := by omega
        have HM3 := Lib.hid hM3
        have HM3l := Lib.hid hM3l
        clear hM3 hM3l hg3 hor3 hown2 q5' r5''
        go_wp2_with fail
        refine (HA.out (St.count e) (by omega) e ae ce (some ⟨g3, 0, none⟩) cap3 M3 base w3 (Nat.le_refl _) (by omega) (by omega) he (d0_off (hof3 g3 rfl) r5c) hown3).mono ?_
        rintro e' w4 ⟨N, a4, c4, hN4, rfl, hown4, hg4, hor4⟩
        have hNl : N.length ≤ M3.length + 2 * St.count e ∧ M3.length ≤ N.length := by rw [hN4, List.length_append]; have := ptsL_le e M3.length; omega
        obtain ⟨hNl1, hNl2⟩ := hNl
        have HN := Lib.hid hN4
        have hof4 := own_next (hof3 g3 rfl) (by have := hgr.size; omega) hor4
        have hG4 : Gr w w4 (ob ao) := hG3.trans hg4 (by intro r hr; simp [ob] at hr; subst hr; exact hof3 g3 rfl)
        have hz4 : w3.heap.size ≤ w4.heap.size := hg4.size
        have hiL : L.length < N.length := by have := HL1n.out; have := HM3l.out; omega
        have hiM : M.length < N.length := by have := HM3l.out; omega
        have hNb : N.length ≤ 20000 := by omega
        obtain ⟨g4, rfl⟩ := hown4.addr (by omega)
        have hown5 := hown4.setAt (ns := [N.length]) (cs := #[.int .i64 (N.length : Int)]) (by omega) hiM (by simp) rfl
        have hG5 : Gr w4 ((w4.setCell ⟨g4, M.length * 5 + 4, none⟩ (.slice (some ⟨w4.heap.size, 0, none⟩) 1 1)).alloc (.cells #[.int .i64 (N.length : Int)] 3)) (some g4) := (own_set _ _ _ _).alloc _
        obtain ⟨⟨vo, hvo⟩, hfo⟩ := hown4.nextCell hiM
        have hq1 : ∀ o, (w4.alloc o).cell? ⟨g4, M.length * 5 + 4, none⟩ = some vo := fun o => ((Gr.refl w4 none).alloc o).cell hvo (by simp)
        have hq2 : ∀ o, (w4.alloc o).frozen? ⟨g4, M.length * 5 + 4, none⟩ = false := fun o => (((Gr.refl w4 none).alloc o).frozen (lt_of_cell hvo) (by simp)).trans hfo
        have hg4lt : g4 < w4.heap.size := lt_of_cell hvo
        clear hN4 hg4 hor4 hown3 r5c q5'' hown4
        go_upto_region 15 with fail
        generalize (w4.setCell ⟨g4, M.length * 5 + 4, none⟩ (.slice (some ⟨w4.heap.size, 0, none⟩) 1 1)).alloc (.cells #[.int .i64 (N.length : Int)] 3) = w5 at *
        obtain ⟨N1, hN1⟩ : ∃ N1, N.set M.length { N[M.length] with next := [N.length] } = N1 := ⟨_, rfl⟩
        rw [hN1] at hown5
        have hN1l : N1.length = N.length := by rw [← hN1]; simp
        have hiL1 : L.length < N1.length := by omega
        have HN1 := Lib.hid hN1
        have HN1l := Lib.hid hN1l
        clear hN1 hq1 hq2 hvo hfo
        obtain ⟨⟨vo2, hvo2⟩, hfo2⟩ := hown5.nextCell hiL1
        have hq1 : ∀ o, (w5.alloc o).cell? ⟨g4, L.length * 5 + 4, none⟩ = some vo2 := fun o => ((Gr.refl w5 none).alloc o).cell hvo2 (by simp)
        have hq2 : ∀ o, (w5.alloc o).frozen? ⟨g4, L.length * 5 + 4, none⟩ = false := fun o => (((Gr.refl w5 none).alloc o).frozen (lt_of_cell hvo2) (by simp)).trans hfo2
        have hg5lt : g4 < w5.heap.size := lt_of_cell hvo2
        have hz5 : w4.heap.size ≤ w5.heap.size := hG5.size
        have HG5 := Lib.hid hG5
        clear hN1l hG5
        go_wp2_with fail
        go_roundw
        case rel => exact ⟨k + 1, _, some ⟨g4, 0, none⟩, c4, by omega, by go_num, (if_list2 HL1.out HM.out HM3.out HN.out hiM HN1.out hiL1).trans (pts_rel HLL.out HPT.out rfl rfl), by simp [HN1l.out], hown5.setAt (ns := [L.length + 1, M.length + 1]) (by omega) hiL1 (by simp) rfl, ((hG4.trans HG5.out (by intro r hr; injection hr with hr; subst hr; exact hof4 g4 rfl)).trans (own_set w5 g4 _ _) (by intro r hr; injection hr with hr; subst hr; exact hof4 g4 rfl)).alloc _, hof4⟩
        case measure => simp [intOf]; omega
      · by_cases h10 : op = 10
        · have hop9 : (op == 9) = false := by simpa using h9
          have hop10 : (op == 10) = true := by simpa using h10
          subst h10
          go_wp2_with (at_builtin; refine app_pts wr _ rfl (.tmp 76) (.tmp 78) rfl base a1 c1 L rfl hPr ?g1b (by omega) hbw ⟨10, 0, 0, 0, []⟩ (.slice none 0 0) (wr.heap.size + 1) 1 rfl ?g2b ?g3b ?g4b ?_)
          case g1b => exact ((Gr.refl _ _).alloc _).alloc _
          case g2b => exact heap2_1 _ _ _
          case g3b => exact .inl ⟨rfl, rfl⟩
          case g4b => intro b hb; simp [Value.ownBlock] at hb
          intro L1 g1 cap1 w1 hL1 hown1 hg1 hor1
          have hL1n : L1.length = L.length + 1 := by rw [hL1]; simp
          have hof1 := own_rel hgr hfr hor1 (by omega) g1 rfl
          have hz1 : wr.heap.size + 1 + 1 ≤ w1.heap.size := by have := hg1.size; simpa using this
          have q4 : w1.cell? ⟨wr.heap.size, 4, none⟩ = some (.slice at' t.length ct) := hg1.cell (p := ⟨wr.heap.size, 4, none⟩) (cell_of_row _ _ _ _ _ _ (heap2_0 _ _ _)) (fun e => by have := HS.out _ e; simp at this)
          have hG1 : Gr w w1 (ob ao) := ((hgr.alloc _).alloc _).trans hg1 hfr
          have r4' := (r4.gr0 (((Gr.refl _ none).alloc _).alloc _)).gr hg1 (fun b o hd e => by rcases hfr b e with q | q; exact hd.1 q; have := hd.2; omega)
          have HL1 := Lib.hid hL1
          have hL1m : L1.length ≤ L.length + 1 := by omega
          have HL1n := Lib.hid hL1n
          clear c0 c1' c2 c3 c4 c5 hs r4 hL1 hL1n hg1 hor1 hPr
          go_wp2_with fail
          refine (HA.out (St.count t) (by omega) t at' ct (some ⟨g1, 0, none⟩) cap1 L1 base w1 (Nat.le_refl _) (by omega) (by omega) ht (d0_off hof1 r4') hown1).mono ?_
          rintro e' w2 ⟨M, a2, c2, hM, rfl, hown2, hg2, hor2⟩
          have hMl : M.length ≤ L1.length + 2 * St.count t ∧ L1.length ≤ M.length := by rw [hM, List.length_append]; have := ptsL_le t L1.length; omega
          obtain ⟨hMl1, hMl2⟩ := hMl
          have HM := Lib.hid hM
          have hof2 := own_next hof1 (by have := hgr.size; omega) hor2
          have hG2 : Gr w w2 (ob ao) := hG1.trans hg2 (by intro r hr; simp [ob] at hr; subst hr; exact hof1)
          have hz2 : w1.heap.size ≤ w2.heap.size := hg2.size
          clear hM hg2 hor2 q4 hown1 r4' r5
          go_wp2_with (at_builtin; refine app_pts w2 _ rfl (.tmp 84) (.tmp 88) rfl base a2 c2 M rfl hown2 ?g1c (by omega) (by omega) ⟨10, 0, 0, 1, [L.length]⟩ (.slice (some ⟨w2.heap.size, 0, none⟩) 1 1) (w2.heap.size + 1) 1 rfl ?g2c ?g3c ?g4c ?_)
          case g1c => exact ((Gr.refl _ _).alloc _).alloc _
          case g2c => exact heap2_1 _ _ _
          case g3c => exact .inr ⟨w2.heap.size, rfl, by omega, heap2_0 _ _ _⟩
          case g4c => intro b hb; simp [Value.ownBlock] at hb; omega
          intro M3 g3 cap3 w3 hM3 hown3 hg3 hor3
          have hM3l : M3.length = M.length + 1 := by rw [hM3]; simp
          have hM3a : L.length < M3.length := by have := HL1n.out; omega
          have hM3b : M3.length ≤ 20000 := by omega
          have hof3 := own_rel hG2 hof2 hor3 (by omega)
          have hz3 : w2.heap.size + 1 + 1 ≤ w3.heap.size := by have := hg3.size; simpa using this
          have hG3 : Gr w w3 (ob ao) := ((hG2.alloc _).alloc _).trans hg3 hof2
          obtain ⟨⟨vo, hvo⟩, hfo⟩ := hown3.nextCell hM3a
          have hq1 : ∀ o, (w3.alloc o).cell? ⟨g3, L.length * 5 + 4, none⟩ = some vo := fun o => ((Gr.refl w3 none).alloc o).cell hvo (by simp)
          have hq2 : ∀ o, (w3.alloc o).frozen? ⟨g3, L.length * 5 + 4, none⟩ = false := fun o => (((Gr.refl w3 none).alloc o).frozen (lt_of_cell hvo) (by simp)).trans hfo
          have hg3lt : g3 < w3.heap.size := lt_of_cell hvo
          have HM3 := Lib.hid hM3
          clear hM3 hM3l hg3 hor3 hown2
          go_wp2_with fail
          go_roundw
          case rel => exact ⟨k + 1, _, some ⟨g3, 0, none⟩, cap3, by omega, by go_num, (loop_list HL1.out HM.out HM3.out hM3a).trans (pts_rel HLL.out HPT.out rfl rfl), by simp, hown3.setAt (ns := [L.length + 1, M3.length]) (by omega) hM3a (by simp) rfl, (hG3.trans (own_set w3 g3 _ _) (by intro r hr; injection hr with hr; subst hr; exact hof3 g3 rfl)).alloc _, hof3⟩
          case measure => simp [intOf]; omega
        · have hop9 : (op == 9) = false := by simpa using h9
          have hop10 : (op == 10) = false := by simpa using h10
          go_wp2_with (at_builtin; refine app_pts wr _ rfl (.tmp 23) (.tmp 36) rfl base a1 c1 L rfl hPr ?g1 (by omega) hbw ⟨op, x, y, nn, [L.length + 1]⟩ (.slice (some ⟨wr.heap.size + 1, 0, none⟩) 1 1) (wr.heap.size + 1 + 1) 1 rfl ?g2 ?g3 ?g4 ?_)
          case g1 => exact (((Gr.refl _ _).alloc _).alloc _).alloc _
          case g2 => exact heap3_2 _ _ _ _
          case g3 => exact .inr ⟨wr.heap.size + 1, rfl, by omega, heap3_1 _ _ _ _⟩
          case g4 => intro b hb; simp [Value.ownBlock] at hb; omega
          intro L' g cap' w' hL' hown' hg' hor
          have HL' := Lib.hid hL'
          clear c0 c1' c2 c3 c4 c5 hs r4 r5 hP hL'
          go_wp2_with fail
          go_roundw
          case rel => exact ⟨k + 1, L', some ⟨g, 0, none⟩, cap', by omega, by go_num, by rw [HL'.out]; exact pts_rel HLL.out HPT.out rfl (by rw [ptsS, hop9, hop10]; rfl), rfl, hown', ((((hgr.alloc _).alloc _).alloc _).trans hg' (by intro r hr; exact hfr r hr)), own_rel hgr hfr hor (by omega)⟩
          case measure => simp [intOf]; omega
    · have hf : l.take k = l := List.take_of_length_le (by omega)
      have hLL2 := HLL.out
      rw [hf] at hLL2
      have HL2 := Lib.hid hLL2
      clear hLL2 hf
      go_wp2
      go_ret
      exact ⟨L, a1, c1, HL2.out, rfl, hPr, hgr, hfr⟩

theorem add_all : ∀ n, AddC n := fun n => Nat.strongRecOn n fun n ih => add_step n ih
end Go.Proofs.Ytjlnfmiekmliaaa
