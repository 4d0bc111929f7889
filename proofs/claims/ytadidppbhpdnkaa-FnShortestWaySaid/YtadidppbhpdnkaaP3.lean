/- The points of a program: what they are, and the walks of pointsOf (program) and l2Add (reference). -/
/- The reference's points: the walk of l2Add. -/
/- The points of a whole program, and the graph of a program: walks. -/
import Derived.Test.YtadidppbhpdnkaaV5

import Derived.Test.YtadidppbhpdnkaaO

import Derived.Deep.DeepMust

import Derived.Deep.RegionHeld3

namespace Go.Proofs.Ytadidppbhpdnkaa

open Go.RowKit

mutual
/-- The points of a statement, from number a on. -/
def ptsS : St → Nat → List Pt
  | .mk op x y n t e, a =>
    if op == 9 then
      [⟨9, 0, 0, 0, [a + 1, a + 1 + (ptsL t (a + 1)).length + 1]⟩] ++ ptsL t (a + 1) ++
        [⟨10, 0, 0, 1, [a + 1 + (ptsL t (a + 1)).length + 1 + (ptsL e (a + 1 + (ptsL t (a + 1)).length + 1)).length]⟩] ++ ptsL e (a + 1 + (ptsL t (a + 1)).length + 1)
    else if op == 10 then
      [⟨10, 0, 0, 0, [a + 1, a + 1 + (ptsL t (a + 1)).length + 1]⟩] ++ ptsL t (a + 1) ++ [⟨10, 0, 0, 1, [a]⟩]
    else [⟨op, x, y, n, [a + 1]⟩]
def ptsL : List St → Nat → List Pt
  | [], _ => []
  | s :: r, a => ptsS s a ++ ptsL r (a + (ptsS s a).length)
end
theorem ptsL_append (m : List St) : ∀ (l : List St) (a : Nat), ptsL (l ++ m) a = ptsL l a ++ ptsL m (a + (ptsL l a).length)
  | [], a => by simp [ptsL]
  | s :: r, a => by simp only [List.cons_append, ptsL, ptsL_append m r, List.append_assoc, List.length_append, Nat.add_assoc]
theorem ptsL_take {l : List St} {k : Nat} (h : k < l.length) (a : Nat) : ptsL (l.take (k + 1)) a = ptsL (l.take k) a ++ ptsS l[k] (a + (ptsL (l.take k) a).length) := by
  rw [List.take_succ_eq_append_getElem h, ptsL_append]
  simp [ptsL]
mutual
theorem ptsS_le : ∀ (s : St) (a : Nat), (ptsS s a).length ≤ 2 + 2 * s.inner
  | .mk op x y n t e, a => by
    simp only [ptsS, St.inner]
    have h1 := ptsL_le t (a + 1)
    have h2 := ptsL_le e (a + 1 + (ptsL t (a + 1)).length + 1)
    split
    · simp only [List.length_append, List.length_cons, List.length_nil]; omega
    · split
      · simp only [List.length_append, List.length_cons, List.length_nil]; omega
      · simp only [List.length_cons, List.length_nil]; omega
theorem ptsL_le : ∀ (l : List St) (a : Nat), (ptsL l a).length ≤ 2 * St.count l
  | [], a => by simp [ptsL]
  | s :: r, a => by
    simp only [ptsL, St.count, List.length_append]
    have h1 := ptsS_le s a
    have h2 := ptsL_le r (a + (ptsS s a).length)
    omega
end

/-- What pointsOf leaves: the points L behind those that were there. -/
def Pointed (L : List Pt) (base : Nat) (ao : Option Addr) (w : World) (e : Ending) (w' : World) : Prop :=
  ∃ (M : List Pt) (a' : Option Addr) (c' : Nat), M = L ∧ e = .returned (.slice a' M.length c') ∧ PtsOwn w' base a' c' M ∧ Gr w w' (ob ao) ∧ (∀ g, ob a' = some g → ob ao = some g ∨ w.heap.size ≤ g)
def PointsC (n : Nat) : Prop := ∀ (l : List St) (a : Option Addr) (c : Nat) (ao : Option Addr) (cap : Nat) (L0 : List Pt) (base : Nat) (w : World), St.count l ≤ n → L0.length + 2 * n ≤ 10000 → base ≤ w.heap.size → l.length ≤ maxLen →
  SlAt w (Off (ob ao)) l a → PtsOwn w base ao cap L0 →
  Calls Try.prog 81 #[.slice a l.length c, .slice ao L0.length cap] w (Pointed (L0 ++ ptsL l L0.length) base ao w)

theorem off_ob (r : Option Nat) : ∀ b o, Off r b o → r ≠ some b := fun _ _ h => h

theorem pts_rel {L L0 S : List Pt} {l1 l2 : List St} {s : St} {a : Nat} (h1 : L = L0 ++ ptsL l1 a) (h2 : ptsL l2 a = ptsL l1 a ++ ptsS s (a + (ptsL l1 a).length)) (ha : a = L0.length) (h3 : ptsS s L.length = S) : L ++ S = L0 ++ ptsL l2 a := by
  subst h3
  rw [h2, ← List.append_assoc, ← h1]
  congr 2
  rw [h1, List.length_append, ha]
theorem own_rel {w wr : World} {r : Option Nat} {a1 : Option Addr} {g n : Nat} (hgr : Gr w wr r) (hfr : ∀ g, ob a1 = some g → r = some g ∨ w.heap.size ≤ g) (hor : ob a1 = some g ∨ n ≤ g) (h1 : wr.heap.size ≤ n) :
    ∀ g', ob (some (⟨g, 0, none⟩ : Addr)) = some g' → r = some g' ∨ w.heap.size ≤ g' := by
  intro g' hg
  simp [ob] at hg
  subst hg
  rcases hor with h | h
  · exact hfr g h
  · right; have := hgr.size; omega
theorem loop_list {L L1 M M3 : List Pt} {t e : List St} {x y nn : Int} (h1 : L1 = L ++ [⟨10, 0, 0, 0, []⟩]) (h2 : M = L1 ++ ptsL t L1.length) (h3 : M3 = M ++ [⟨10, 0, 0, 1, [L.length]⟩]) (hi : L.length < M3.length) :
    M3.set L.length { M3[L.length] with next := [L.length + 1, M3.length] } = L ++ ptsS (.mk 10 x y nn t e) L.length := by
  subst h1 h2 h3
  simp only [ptsS, List.length_append, List.length_cons, List.length_nil, List.append_assoc]
  rw [List.set_append_right _ _ (Nat.le_refl _)]
  simp [Nat.add_assoc]
theorem set_mid {A E N : List Pt} {q : Pt} {i : Nat} {ns : List Nat} (hN : N = A ++ q :: E) (hi : i = A.length) (hm : i < N.length) : N.set i { N[i] with next := ns } = A ++ { q with next := ns } :: E := by
  subst hN hi; simp
theorem if_list {L L1 M M3 N N1 : List Pt} {t e : List St} {x y nn : Int} (h1 : L1 = L ++ [⟨9, 0, 0, 0, []⟩]) (h2 : M = L1 ++ ptsL t L1.length) (h3 : M3 = M ++ [⟨10, 0, 0, 1, []⟩]) (h4 : N = M3 ++ ptsL e M3.length)
    (hi : L.length < N.length) (h5 : N.set L.length { N[L.length] with next := [L.length + 1, M.length + 1] } = N1) (hm : M.length < N1.length) :
    N1.set M.length { N1[M.length] with next := [N.length] } = L ++ ptsS (.mk 9 x y nn t e) L.length := by
  have l1 : L1.length = L.length + 1 := by rw [h1]; simp
  have l2 : M.length = L.length + 1 + (ptsL t (L.length + 1)).length := by rw [h2, List.length_append, l1]
  have l3 : M3.length = L.length + 1 + (ptsL t (L.length + 1)).length + 1 := by rw [h3, List.length_append, l2]; rfl
  have l4 : N.length = L.length + 1 + (ptsL t (L.length + 1)).length + 1 + (ptsL e (L.length + 1 + (ptsL t (L.length + 1)).length + 1)).length := by rw [h4, List.length_append, l3]
  have hN : N = L ++ ⟨9, 0, 0, 0, []⟩ :: (ptsL t (L.length + 1) ++ ⟨10, 0, 0, 1, []⟩ :: ptsL e (L.length + 1 + (ptsL t (L.length + 1)).length + 1)) := by
    rw [h4, h3, l3.symm.symm] at *
    rw [h2, l1, h1]
    simp [List.append_assoc]
  have hN1 := (set_mid (ns := [L.length + 1, M.length + 1]) hN rfl hi).symm.trans h5
  have hN1' : N1 = (L ++ ⟨9, 0, 0, 0, [L.length + 1, M.length + 1]⟩ :: ptsL t (L.length + 1)) ++ ⟨10, 0, 0, 1, []⟩ :: ptsL e (L.length + 1 + (ptsL t (L.length + 1)).length + 1) := by
    rw [← hN1]; simp
  rw [set_mid (ns := [N.length]) hN1' (by rw [l2]; simp; omega) hm, l4, l2]
  simp [ptsS, List.append_assoc]
theorem own_next {w w1 : World} {r : Option Nat} {g1 : Nat} {a2 : Option Addr} (h1 : r = some g1 ∨ w.heap.size ≤ g1) (hs : w.heap.size ≤ w1.heap.size) (h : ∀ g, ob a2 = some g → ob (some (⟨g1, 0, none⟩ : Addr)) = some g ∨ w1.heap.size ≤ g) :
    ∀ g, ob a2 = some g → r = some g ∨ w.heap.size ≤ g := by
  intro g hg
  rcases h g hg with q | q
  · simp [ob] at q; subst q; exact h1
  · right; omega
theorem d0_off {w w1 : World} {r : Option Nat} {g : Nat} {l : List St} {a : Option Addr} (h : r = some g ∨ w.heap.size ≤ g) (hs : SlAt w1 (fun b o => Off r b o ∧ b < w.heap.size) l a) :
    SlAt w1 (Off (ob (some (⟨g, 0, none⟩ : Addr)))) l a :=
  SlAt.mono (fun b _ hd e => by
    simp [ob] at e
    subst e
    rcases h with q | q
    · exact hd.1 q
    · have := hd.2; omega) (fun _ _ _ _ _ _ h => h) l a hs
set_option maxRecDepth 100000 in
set_option maxHeartbeats 2000000 in
theorem points_step (n : Nat) (hA : ∀ m, m < n → PointsC m) : PointsC n := by
  intro l a c ao cap L0 base w hn hN hbase hl hL hP
  have HA := Lib.hid hA
  clear hA
  unfold maxLen at hl
  have hL0 := SlAt.lt l a hL
  clear hL
  go_enter Try.func81, Try.ntmps81
  go_wp2
  go_loopw [1, 11] (fun v i wr => ∃ (k : Nat) (L : List Pt) (a1 : Option Addr) (c1 : Nat), k ≤ l.length ∧ i = .int .i64 k ∧ L = L0 ++ ptsL (l.take k) L0.length ∧ v = .slice a1 L.length c1 ∧ PtsOwn wr base a1 c1 L ∧ Gr w wr (ob ao) ∧ (∀ g, ob a1 = some g → ob ao = some g ∨ w.heap.size ≤ g)) (fun _ i _ => l.length - (intOf i).toNat)
  case atStart => exact ⟨0, L0, ao, cap, Nat.zero_le _, rfl, by simp [ptsL], rfl, hP, Gr.refl _ _, fun g h => .inl h⟩
  case round =>
    obtain ⟨k, L, a1, c1, hk, rfl, hLL, rfl, hPr, hgr, hfr⟩ := hrel
    have HLL := Lib.hid hLL
    have hLlen : L.length ≤ L0.length + 2 * St.count (l.take k) := by
      rw [hLL, List.length_append]; have := ptsL_le (l.take k) L0.length; omega
    clear hLL
    by_cases hlt : k < l.length
    · have hct := count_take_succ hlt
      have hct2 := count_take_le l (k + 1)
      have hLr := hL0.gr hgr (fun b o h => h.1)
      obtain ⟨b, off, rfl, hs⟩ := hLr.at hlt
      obtain ⟨s, es⟩ : ∃ s, l[k] = s := ⟨_, rfl⟩
      rw [es] at hs hct
      have HPT := Lib.hid (ptsL_take hlt L0.length)
      rw [es] at HPT
      clear es
      obtain ⟨_, ht, he, at', ct, ae, ce, c0, c1', c2, c3, c4, c5, r4, r5⟩ := hs.out
      obtain ⟨op, x, y, nn, t, e⟩ := s
      simp only [St.thn, St.els, St.op, St.x, St.y, St.n, St.inner] at *
      have hbw : base ≤ wr.heap.size := by have := hgr.size; omega
      have hLt : L.length ≤ 10000 := by omega
      have hrow1 : ∀ g, ob a1 = some g → g < wr.heap.size := fun g hg => (hPr.row g hg).2.1
      have HS := Lib.hid hrow1
      clear hrow1
      by_cases h9 : op = 9
      · have hop9 : (op == 9) = true := by simpa using h9
        subst h9
        go_wp2_with (at_builtin; refine app_pts wr _ rfl (.tmp 36) (.tmp 38) rfl base a1 c1 L rfl hPr ?g1d (by omega) hbw ⟨9, 0, 0, 0, []⟩ (.slice none 0 0) (wr.heap.size + 1) 1 rfl ?g2d ?g3d ?g4d ?_)
        case g1d => exact ((Gr.refl _ _).alloc _).alloc _
        case g2d => exact heap2_1 _ _ _
        case g3d => exact .inl ⟨rfl, rfl⟩
        case g4d => intro b hb; simp [Value.ownBlock] at hb
        intro L1 g1 cap1 w1 hL1 hown1 hg1 hor1
        have hL1n : L1.length = L.length + 1 := by rw [hL1]; simp
        have hof1 := own_rel hgr hfr hor1 (by omega) g1 rfl
        have hz1 : wr.heap.size + 1 + 1 ≤ w1.heap.size := by have := hg1.size; simpa using this
        have hr1 : ob a1 ≠ some wr.heap.size := fun e => by have := HS.out _ e; simp at this
        have hn1 : g1 ≠ wr.heap.size := by rcases hor1 with q | q; have := HS.out _ q; omega; omega
        have q4 : w1.cell? ⟨wr.heap.size, 4, none⟩ = some (.slice at' t.length ct) := hg1.cell (p := ⟨wr.heap.size, 4, none⟩) (cell_of_row _ _ _ _ _ _ (heap2_0 _ _ _)) hr1
        have q5 : w1.cell? ⟨wr.heap.size, 5, none⟩ = some (.slice ae e.length ce) := hg1.cell (p := ⟨wr.heap.size, 5, none⟩) (cell_of_row _ _ _ _ _ _ (heap2_0 _ _ _)) hr1
        have hG1 : Gr w w1 (ob ao) := ((hgr.alloc _).alloc _).trans hg1 hfr
        have r4' := (r4.gr0 (((Gr.refl _ none).alloc _).alloc _)).gr hg1 (fun b o hd e => by rcases hfr b e with q | q; exact hd.1 q; have := hd.2; omega)
        have r5' := (r5.gr0 (((Gr.refl _ none).alloc _).alloc _)).gr hg1 (fun b o hd e => by rcases hfr b e with q | q; exact hd.1 q; have := hd.2; omega)
        have HL1 := Lib.hid hL1
        have hL1m : L1.length ≤ L.length + 1 := by omega
        have HL1n := Lib.hid hL1n
        clear c0 c1' c2 c3 c4 c5 hs r4 r5 hL1 hL1n hg1 hor1 hPr hr1
        go_wp2_with fail
        refine (HA.out (St.count t) (by omega) t at' ct (some ⟨g1, 0, none⟩) cap1 L1 base w1 (Nat.le_refl _) (by omega) (by omega) ht (d0_off hof1 r4') hown1).mono ?_
        rintro e' w2 ⟨M, a2, c2, hM, rfl, hown2, hg2, hor2⟩
        have hMl : M.length ≤ L1.length + 2 * St.count t ∧ L1.length ≤ M.length := by rw [hM, List.length_append]; have := ptsL_le t L1.length; omega
        obtain ⟨hMl1, hMl2⟩ := hMl
        have HM := Lib.hid hM
        have hof2 := own_next hof1 (by have := hgr.size; omega) hor2
        have hn2 : ob a2 ≠ some wr.heap.size := fun e => by rcases hor2 _ e with q | q; (simp [ob] at q; exact hn1 q); omega
        have hG2 : Gr w w2 (ob ao) := hG1.trans hg2 (by intro r hr; simp [ob] at hr; subst hr; exact hof1)
        have hz2 : w1.heap.size ≤ w2.heap.size := hg2.size
        have q5' : w2.cell? ⟨wr.heap.size, 5, none⟩ = some (.slice ae e.length ce) := hg2.cell q5 (by simp [ob]; exact hn1)
        have r5'' := r5'.gr hg2 (fun b o hd e => by simp [ob] at e; subst e; rcases hof1 with q | q; exact hd.1 q; have := hd.2; omega)
        clear hM hg2 hor2 q4 q5 hown1 r4' r5'
        go_wp2_with (at_builtin; refine app_pts w2 _ rfl (.tmp 46) (.tmp 48) rfl base a2 c2 M rfl hown2 ?g1e (by omega) (by omega) ⟨10, 0, 0, 1, []⟩ (.slice none 0 0) w2.heap.size 1 rfl ?g2e ?g3e ?g4e ?_)
        case g1e => exact (Gr.refl _ _).alloc _
        case g2e => exact heap1_0 _ _
        case g3e => exact .inl ⟨rfl, rfl⟩
        case g4e => intro b hb; simp [Value.ownBlock] at hb
        intro M3 g3 cap3 w3 hM3 hown3 hg3 hor3
        have hM3l : M3.length = M.length + 1 := by rw [hM3]; simp
        have hof3 := own_rel hG2 hof2 hor3 (by omega)
        have hz3 : w2.heap.size + 1 ≤ w3.heap.size := by have := hg3.size; simpa using this
        have hG3 : Gr w w3 (ob ao) := (hG2.alloc _).trans hg3 hof2
        have q5'' : w3.cell? ⟨wr.heap.size, 5, none⟩ = some (.slice ae e.length ce) := hg3.cell (((Gr.refl _ none).alloc _).cell q5' (by simp)) hn2
        have r5c := (r5''.gr0 ((Gr.refl _ none).alloc _)).gr hg3 (fun b o hd e => by rcases hof2 b e with q | q; exact hd.1 q; have := hd.2; omega)
        have hM3m : M3.length ≤ M.length + 1 := by omega
        have HM3 := Lib.hid hM3
        have HM3l := Lib.hid hM3l
        clear hM3 hM3l hg3 hor3 hown2 q5' r5''
        go_wp2_with fail
        refine (HA.out (St.count e) (by omega) e ae ce (some ⟨g3, 0, none⟩) cap3 M3 base w3 (Nat.le_refl _) (by omega) (by omega) he (d0_off (hof3 g3 rfl) r5c) hown3).mono ?_
        rintro e' w4 ⟨N, a4, c4, hN4, rfl, hown4, hg4, hor4⟩
        have hNl : N.length ≤ M3.length + 2 * St.count e ∧ M3.length ≤ N.length := by rw [hN4, List.length_append]; have := ptsL_le e M3.length; omega
        obtain ⟨hNl1, hNl2⟩ := hNl
        have HN := Lib.hid hN4
        have hof4 := own_next (hof3 g3 rfl) (by have := hgr.size; omega) hor4
        have hG4 : Gr w w4 (ob ao) := hG3.trans hg4 (by intro r hr; simp [ob] at hr; subst hr; exact hof3 g3 rfl)
        have hz4 : w3.heap.size ≤ w4.heap.size := hg4.size
        have hiL : L.length < N.length := by have := HL1n.out; have := HM3l.out; omega
        have hiM : M.length < N.length := by have := HM3l.out; omega
        have hNb : N.length ≤ 20000 := by omega
        obtain ⟨g4, rfl⟩ := hown4.addr (by omega)
        have hown5 := hown4.setAt (ns := [L.length + 1, M.length + 1]) (cs := #[.int .i64 ((L.length : Int) + 1), .int .i64 ((M.length : Int) + 1)]) (by omega) hiL (by simp) rfl
        have hG5 : Gr w4 ((w4.setCell ⟨g4, L.length * 5 + 4, none⟩ (.slice (some ⟨w4.heap.size, 0, none⟩) 2 2)).alloc (.cells #[.int .i64 ((L.length : Int) + 1), .int .i64 ((M.length : Int) + 1)] 3)) (some g4) := (own_set _ _ _ _).alloc _
        obtain ⟨⟨vo, hvo⟩, hfo⟩ := hown4.nextCell hiL
        have hq1 : ∀ o, (w4.alloc o).cell? ⟨g4, L.length * 5 + 4, none⟩ = some vo := fun o => ((Gr.refl w4 none).alloc o).cell hvo (by simp)
        have hq2 : ∀ o, (w4.alloc o).frozen? ⟨g4, L.length * 5 + 4, none⟩ = false := fun o => (((Gr.refl w4 none).alloc o).frozen (lt_of_cell hvo) (by simp)).trans hfo
        have hg4lt : g4 < w4.heap.size := lt_of_cell hvo
        clear hN4 hg4 hor4 hown3 r5c q5'' hown4
        go_upto_region 14 with fail
        generalize (w4.setCell ⟨g4, L.length * 5 + 4, none⟩ (.slice (some ⟨w4.heap.size, 0, none⟩) 2 2)).alloc (.cells #[.int .i64 ((L.length : Int) + 1), .int .i64 ((M.length : Int) + 1)] 3) = w5 at *
        obtain ⟨N1, hN1⟩ : ∃ N1, N.set L.length { N[L.length] with next := [L.length + 1, M.length + 1] } = N1 := ⟨_, rfl⟩
        rw [hN1] at hown5
        have hN1l : N1.length = N.length := by rw [← hN1]; simp
        have hiM1 : M.length < N1.length := by omega
        have HN1 := Lib.hid hN1
        have HN1l := Lib.hid hN1l
        clear hN1 hq1 hq2 hvo hfo
        obtain ⟨⟨vo2, hvo2⟩, hfo2⟩ := hown5.nextCell hiM1
        have hq1 : ∀ o, (w5.alloc o).cell? ⟨g4, M.length * 5 + 4, none⟩ = some vo2 := fun o => ((Gr.refl w5 none).alloc o).cell hvo2 (by simp)
        have hq2 : ∀ o, (w5.alloc o).frozen? ⟨g4, M.length * 5 + 4, none⟩ = false := fun o => (((Gr.refl w5 none).alloc o).frozen (lt_of_cell hvo2) (by simp)).trans hfo2
        have hg5lt : g4 < w5.heap.size := lt_of_cell hvo2
        have hz5 : w4.heap.size ≤ w5.heap.size := hG5.size
        have HG5 := Lib.hid hG5
        clear hN1l hG5
        go_wp2_with fail
        go_roundw
        case rel => exact ⟨k + 1, _, some ⟨g4, 0, none⟩, c4, by omega, by go_num, (if_list HL1.out HM.out HM3.out HN.out hiL HN1.out hiM1).trans (pts_rel HLL.out HPT.out rfl rfl), by simp [HN1l.out], hown5.setAt (ns := [N.length]) (by omega) hiM1 (by simp) rfl, ((hG4.trans HG5.out (by intro r hr; injection hr with hr; subst hr; exact hof4 g4 rfl)).trans (own_set w5 g4 _ _) (by intro r hr; injection hr with hr; subst hr; exact hof4 g4 rfl)).alloc _, hof4⟩
        case measure => simp [intOf]; omega
      · by_cases h10 : op = 10
        · have hop9 : (op == 9) = false := by simpa using h9
          have hop10 : (op == 10) = true := by simpa using h10
          subst h10
          go_wp2_with (at_builtin; refine app_pts wr _ rfl (.tmp 72) (.tmp 74) rfl base a1 c1 L rfl hPr ?g1b (by omega) hbw ⟨10, 0, 0, 0, []⟩ (.slice none 0 0) (wr.heap.size + 1) 1 rfl ?g2b ?g3b ?g4b ?_)
          case g1b => exact ((Gr.refl _ _).alloc _).alloc _
          case g2b => exact heap2_1 _ _ _
          case g3b => exact .inl ⟨rfl, rfl⟩
          case g4b => intro b hb; simp [Value.ownBlock] at hb
          intro L1 g1 cap1 w1 hL1 hown1 hg1 hor1
          have hL1n : L1.length = L.length + 1 := by rw [hL1]; simp
          have hof1 := own_rel hgr hfr hor1 (by omega) g1 rfl
          have hz1 : wr.heap.size + 1 + 1 ≤ w1.heap.size := by have := hg1.size; simpa using this
          have q4 : w1.cell? ⟨wr.heap.size, 4, none⟩ = some (.slice at' t.length ct) := hg1.cell (p := ⟨wr.heap.size, 4, none⟩) (cell_of_row _ _ _ _ _ _ (heap2_0 _ _ _)) (fun e => by have := HS.out _ e; simp at this)
          have hG1 : Gr w w1 (ob ao) := ((hgr.alloc _).alloc _).trans hg1 hfr
          have r4' := (r4.gr0 (((Gr.refl _ none).alloc _).alloc _)).gr hg1 (fun b o hd e => by rcases hfr b e with q | q; exact hd.1 q; have := hd.2; omega)
          have HL1 := Lib.hid hL1
          have hL1m : L1.length ≤ L.length + 1 := by omega
          have HL1n := Lib.hid hL1n
          clear c0 c1' c2 c3 c4 c5 hs r4 hL1 hL1n hg1 hor1 hPr
          go_wp2_with fail
          refine (HA.out (St.count t) (by omega) t at' ct (some ⟨g1, 0, none⟩) cap1 L1 base w1 (Nat.le_refl _) (by omega) (by omega) ht (d0_off hof1 r4') hown1).mono ?_
          rintro e' w2 ⟨M, a2, c2, hM, rfl, hown2, hg2, hor2⟩
          have hMl : M.length ≤ L1.length + 2 * St.count t ∧ L1.length ≤ M.length := by rw [hM, List.length_append]; have := ptsL_le t L1.length; omega
          obtain ⟨hMl1, hMl2⟩ := hMl
          have HM := Lib.hid hM
          have hof2 := own_next hof1 (by have := hgr.size; omega) hor2
          have hG2 : Gr w w2 (ob ao) := hG1.trans hg2 (by intro r hr; simp [ob] at hr; subst hr; exact hof1)
          have hz2 : w1.heap.size ≤ w2.heap.size := hg2.size
          clear hM hg2 hor2 q4 hown1 r4' r5
          go_wp2_with (at_builtin; refine app_pts w2 _ rfl (.tmp 80) (.tmp 84) rfl base a2 c2 M rfl hown2 ?g1c (by omega) (by omega) ⟨10, 0, 0, 1, [L.length]⟩ (.slice (some ⟨w2.heap.size, 0, none⟩) 1 1) (w2.heap.size + 1) 1 rfl ?g2c ?g3c ?g4c ?_)
          case g1c => exact ((Gr.refl _ _).alloc _).alloc _
          case g2c => exact heap2_1 _ _ _
          case g3c => exact .inr ⟨w2.heap.size, rfl, by omega, heap2_0 _ _ _⟩
          case g4c => intro b hb; simp [Value.ownBlock] at hb; omega
          intro M3 g3 cap3 w3 hM3 hown3 hg3 hor3
          have hM3l : M3.length = M.length + 1 := by rw [hM3]; simp
          have hM3a : L.length < M3.length := by have := HL1n.out; omega
          have hM3b : M3.length ≤ 20000 := by omega
          have hof3 := own_rel hG2 hof2 hor3 (by omega)
          have hz3 : w2.heap.size + 1 + 1 ≤ w3.heap.size := by have := hg3.size; simpa using this
          have hG3 : Gr w w3 (ob ao) := ((hG2.alloc _).alloc _).trans hg3 hof2
          obtain ⟨⟨vo, hvo⟩, hfo⟩ := hown3.nextCell hM3a
          have hq1 : ∀ o, (w3.alloc o).cell? ⟨g3, L.length * 5 + 4, none⟩ = some vo := fun o => ((Gr.refl w3 none).alloc o).cell hvo (by simp)
          have hq2 : ∀ o, (w3.alloc o).frozen? ⟨g3, L.length * 5 + 4, none⟩ = false := fun o => (((Gr.refl w3 none).alloc o).frozen (lt_of_cell hvo) (by simp)).trans hfo
          have hg3lt : g3 < w3.heap.size := lt_of_cell hvo
          have HM3 := Lib.hid hM3
          clear hM3 hM3l hg3 hor3 hown2
          go_wp2_with fail
          go_roundw
          case rel => exact ⟨k + 1, _, some ⟨g3, 0, none⟩, cap3, by omega, by go_num, (loop_list HL1.out HM.out HM3.out hM3a).trans (pts_rel HLL.out HPT.out rfl rfl), by simp, hown3.setAt (ns := [L.length + 1, M3.length]) (by omega) hM3a (by simp) rfl, (hG3.trans (own_set w3 g3 _ _) (by intro r hr; injection hr with hr; subst hr; exact hof3 g3 rfl)).alloc _, hof3⟩
          case measure => simp [intOf]; omega
        · have hop9 : (op == 9) = false := by simpa using h9
          have hop10 : (op == 10) = false := by simpa using h10
          go_wp2_with (at_builtin; refine app_pts wr _ rfl (.tmp 19) (.tmp 32) rfl base a1 c1 L rfl hPr ?g1 (by omega) hbw ⟨op, x, y, nn, [L.length + 1]⟩ (.slice (some ⟨wr.heap.size + 1, 0, none⟩) 1 1) (wr.heap.size + 1 + 1) 1 rfl ?g2 ?g3 ?g4 ?_)
          case g1 => exact (((Gr.refl _ _).alloc _).alloc _).alloc _
          case g2 => exact heap3_2 _ _ _ _
          case g3 => exact .inr ⟨wr.heap.size + 1, rfl, by omega, heap3_1 _ _ _ _⟩
          case g4 => intro b hb; simp [Value.ownBlock] at hb; omega
          intro L' g cap' w' hL' hown' hg' hor
          have HL' := Lib.hid hL'
          clear c0 c1' c2 c3 c4 c5 hs r4 r5 hP hL'
          go_wp2_with fail
          go_roundw
          case rel => exact ⟨k + 1, L', some ⟨g, 0, none⟩, cap', by omega, by go_num, by rw [HL'.out]; exact pts_rel HLL.out HPT.out rfl (by rw [ptsS, hop9, hop10]; rfl), rfl, hown', ((((hgr.alloc _).alloc _).alloc _).trans hg' (by intro r hr; exact hfr r hr)), own_rel hgr hfr hor (by omega)⟩
          case measure => simp [intOf]; omega
    · have hf : l.take k = l := List.take_of_length_le (by omega)
      have hLL2 := HLL.out
      rw [hf] at hLL2
      have HL2 := Lib.hid hLL2
      clear hLL2 hf
      go_wp2
      go_ret
      exact ⟨L, a1, c1, HL2.out, rfl, hPr, hgr, hfr⟩

theorem points_all : ∀ n, PointsC n := fun n => Nat.strongRecOn n fun n ih => points_step n ih
end Go.Proofs.Ytadidppbhpdnkaa

namespace Go.Proofs.Ytadidppbhpdnkaa

open Go.RowKit

def AddC (n : Nat) : Prop := ∀ (l : List St) (a : Option Addr) (c : Nat) (ao : Option Addr) (cap : Nat) (L0 : List Pt) (base : Nat) (w : World), St.count l ≤ n → L0.length + 2 * n ≤ 10000 → base ≤ w.heap.size → l.length ≤ maxLen →
  SlAt w (Off (ob ao)) l a → PtsOwn w base ao cap L0 →
  Calls Try.prog 76 #[.slice ao L0.length cap, .slice a l.length c] w (Pointed (L0 ++ ptsL l L0.length) base ao w)

theorem if_list2 {L L1 M M3 N N1 : List Pt} {t e : List St} {x y nn : Int} (h1 : L1 = L ++ [⟨9, 0, 0, 0, []⟩]) (h2 : M = L1 ++ ptsL t L1.length) (h3 : M3 = M ++ [⟨10, 0, 0, 1, []⟩]) (h4 : N = M3 ++ ptsL e M3.length)
    (hi : M.length < N.length) (h5 : N.set M.length { N[M.length] with next := [N.length] } = N1) (hm : L.length < N1.length) :
    N1.set L.length { N1[L.length] with next := [L.length + 1, M.length + 1] } = L ++ ptsS (.mk 9 x y nn t e) L.length := by
  have l1 : L1.length = L.length + 1 := by rw [h1]; simp
  have l2 : M.length = L.length + 1 + (ptsL t (L.length + 1)).length := by rw [h2, List.length_append, l1]
  have l3 : M3.length = L.length + 1 + (ptsL t (L.length + 1)).length + 1 := by rw [h3, List.length_append, l2]; rfl
  have l4 : N.length = L.length + 1 + (ptsL t (L.length + 1)).length + 1 + (ptsL e (L.length + 1 + (ptsL t (L.length + 1)).length + 1)).length := by rw [h4, List.length_append, l3]
  have hN : N = L ++ ⟨9, 0, 0, 0, []⟩ :: (ptsL t (L.length + 1) ++ ⟨10, 0, 0, 1, []⟩ :: ptsL e (L.length + 1 + (ptsL t (L.length + 1)).length + 1)) := by
    rw [h4, h3, l3.symm.symm] at *
    rw [h2, l1, h1]
    simp [List.append_assoc]
  have hN' : N = (L ++ ⟨9, 0, 0, 0, []⟩ :: ptsL t (L.length + 1)) ++ ⟨10, 0, 0, 1, []⟩ :: ptsL e (L.length + 1 + (ptsL t (L.length + 1)).length + 1) := by rw [hN]; simp
  have hN1 := (set_mid (ns := [N.length]) hN' (by rw [l2]; simp; omega) hi).symm.trans h5
  have hN1' : N1 = L ++ ⟨9, 0, 0, 0, []⟩ :: (ptsL t (L.length + 1) ++ ⟨10, 0, 0, 1, [N.length]⟩ :: ptsL e (L.length + 1 + (ptsL t (L.length + 1)).length + 1)) := by
    rw [← hN1]; simp
  rw [set_mid (ns := [L.length + 1, M.length + 1]) hN1' rfl hm, l4, l2]
  simp [ptsS, List.append_assoc]
set_option maxRecDepth 100000 in
set_option maxHeartbeats 2000000 in
theorem add_step (n : Nat) (hA : ∀ m, m < n → AddC m) : AddC n := by
  intro l a c ao cap L0 base w hn hN hbase hl hL hP
  have HA := Lib.hid hA
  clear hA
  unfold maxLen at hl
  have hL0 := SlAt.lt l a hL
  clear hL
  go_enter Try.func76, Try.ntmps76
  go_wp2
  go_loopw [0, 5] (fun v i wr => ∃ (k : Nat) (L : List Pt) (a1 : Option Addr) (c1 : Nat), k ≤ l.length ∧ i = .int .i64 k ∧ L = L0 ++ ptsL (l.take k) L0.length ∧ v = .slice a1 L.length c1 ∧ PtsOwn wr base a1 c1 L ∧ Gr w wr (ob ao) ∧ (∀ g, ob a1 = some g → ob ao = some g ∨ w.heap.size ≤ g)) (fun _ i _ => l.length - (intOf i).toNat)
  case atStart => exact ⟨0, L0, ao, cap, Nat.zero_le _, rfl, by simp [ptsL], rfl, hP, Gr.refl _ _, fun g h => .inl h⟩
  case round =>
    obtain ⟨k, L, a1, c1, hk, rfl, hLL, rfl, hPr, hgr, hfr⟩ := hrel
    have HLL := Lib.hid hLL
    have hLlen : L.length ≤ L0.length + 2 * St.count (l.take k) := by
      rw [hLL, List.length_append]; have := ptsL_le (l.take k) L0.length; omega
    clear hLL
    by_cases hlt : k < l.length
    · have hct := count_take_succ hlt
      have hct2 := count_take_le l (k + 1)
      have hLr := hL0.gr hgr (fun b o h => h.1)
      obtain ⟨b, off, rfl, hs⟩ := hLr.at hlt
      obtain ⟨s, es⟩ : ∃ s, l[k] = s := ⟨_, rfl⟩
      rw [es] at hs hct
      have HPT := Lib.hid (ptsL_take hlt L0.length)
      rw [es] at HPT
      clear es
      obtain ⟨_, ht, he, at', ct, ae, ce, c0, c1', c2, c3, c4, c5, r4, r5⟩ := hs.out
      obtain ⟨op, x, y, nn, t, e⟩ := s
      simp only [St.thn, St.els, St.op, St.x, St.y, St.n, St.inner] at *
      have hbw : base ≤ wr.heap.size := by have := hgr.size; omega
      have hLt : L.length ≤ 10000 := by omega
      have hrow1 : ∀ g, ob a1 = some g → g < wr.heap.size := fun g hg => (hPr.row g hg).2.1
      have HS := Lib.hid hrow1
      clear hrow1
      by_cases h9 : op = 9
      · have hop9 : (op == 9) = true := by simpa using h9
        subst h9
        go_wp2_with (at_builtin; refine app_pts wr _ rfl (.tmp 40) (.tmp 42) rfl base a1 c1 L rfl hPr ?g1d (by omega) hbw ⟨9, 0, 0, 0, []⟩ (.slice none 0 0) (wr.heap.size + 1) 1 rfl ?g2d ?g3d ?g4d ?_)
        case g1d => exact ((Gr.refl _ _).alloc _).alloc _
        case g2d => exact heap2_1 _ _ _
        case g3d => exact .inl ⟨rfl, rfl⟩
        case g4d => intro b hb; simp [Value.ownBlock] at hb
        intro L1 g1 cap1 w1 hL1 hown1 hg1 hor1
        have hL1n : L1.length = L.length + 1 := by rw [hL1]; simp
        have hof1 := own_rel hgr hfr hor1 (by omega) g1 rfl
        have hz1 : wr.heap.size + 1 + 1 ≤ w1.heap.size := by have := hg1.size; simpa using this
        have hr1 : ob a1 ≠ some wr.heap.size := fun e => by have := HS.out _ e; simp at this
        have hn1 : g1 ≠ wr.heap.size := by rcases hor1 with q | q; have := HS.out _ q; omega; omega
        have q4 : w1.cell? ⟨wr.heap.size, 4, none⟩ = some (.slice at' t.length ct) := hg1.cell (p := ⟨wr.heap.size, 4, none⟩) (cell_of_row _ _ _ _ _ _ (heap2_0 _ _ _)) hr1
        have q5 : w1.cell? ⟨wr.heap.size, 5, none⟩ = some (.slice ae e.length ce) := hg1.cell (p := ⟨wr.heap.size, 5, none⟩) (cell_of_row _ _ _ _ _ _ (heap2_0 _ _ _)) hr1
        have hG1 : Gr w w1 (ob ao) := ((hgr.alloc _).alloc _).trans hg1 hfr
        have r4' := (r4.gr0 (((Gr.refl _ none).alloc _).alloc _)).gr hg1 (fun b o hd e => by rcases hfr b e with q | q; exact hd.1 q; have := hd.2; omega)
        have r5' := (r5.gr0 (((Gr.refl _ none).alloc _).alloc _)).gr hg1 (fun b o hd e => by rcases hfr b e with q | q; exact hd.1 q; have := hd.2; omega)
        have HL1 := Lib.hid hL1
        have hL1m : L1.length ≤ L.length + 1 := by omega
        have HL1n := Lib.hid hL1n
        clear c0 c1' c2 c3 c4 c5 hs r4 r5 hL1 hL1n hg1 hor1 hPr hr1
        go_wp2_with fail
        refine (HA.out (St.count t) (by omega) t at' ct (some ⟨g1, 0, none⟩) cap1 L1 base w1 (Nat.le_refl _) (by omega) (by omega) ht (d0_off hof1 r4') hown1).mono ?_
        rintro e' w2 ⟨M, a2, c2, hM, rfl, hown2, hg2, hor2⟩
        have hMl : M.length ≤ L1.length + 2 * St.count t ∧ L1.length ≤ M.length := by rw [hM, List.length_append]; have := ptsL_le t L1.length; omega
        obtain ⟨hMl1, hMl2⟩ := hMl
        have HM := Lib.hid hM
        have hof2 := own_next hof1 (by have := hgr.size; omega) hor2
        have hn2 : ob a2 ≠ some wr.heap.size := fun e => by rcases hor2 _ e with q | q; (simp [ob] at q; exact hn1 q); omega
        have hG2 : Gr w w2 (ob ao) := hG1.trans hg2 (by intro r hr; simp [ob] at hr; subst hr; exact hof1)
        have hz2 : w1.heap.size ≤ w2.heap.size := hg2.size
        have q5' : w2.cell? ⟨wr.heap.size, 5, none⟩ = some (.slice ae e.length ce) := hg2.cell q5 (by simp [ob]; exact hn1)
        have r5'' := r5'.gr hg2 (fun b o hd e => by simp [ob] at e; subst e; rcases hof1 with q | q; exact hd.1 q; have := hd.2; omega)
        clear hM hg2 hor2 q4 q5 hown1 r4' r5'
        go_wp2_with (at_builtin; refine app_pts w2 _ rfl (.tmp 50) (.tmp 52) rfl base a2 c2 M rfl hown2 ?g1e (by omega) (by omega) ⟨10, 0, 0, 1, []⟩ (.slice none 0 0) w2.heap.size 1 rfl ?g2e ?g3e ?g4e ?_)
        case g1e => exact (Gr.refl _ _).alloc _
        case g2e => exact heap1_0 _ _
        case g3e => exact .inl ⟨rfl, rfl⟩
        case g4e => intro b hb; simp [Value.ownBlock] at hb
        intro M3 g3 cap3 w3 hM3 hown3 hg3 hor3
        have hM3l : M3.length = M.length + 1 := by rw [hM3]; simp
        have hof3 := own_rel hG2 hof2 hor3 (by omega)
        have hz3 : w2.heap.size + 1 ≤ w3.heap.size := by have := hg3.size; simpa using this
        have hG3 : Gr w w3 (ob ao) := (hG2.alloc _).trans hg3 hof2
        have q5'' : w3.cell? ⟨wr.heap.size, 5, none⟩ = some (.slice ae e.length ce) := hg3.cell (((Gr.refl _ none).alloc _).cell q5' (by simp)) hn2
        have r5c := (r5''.gr0 ((Gr.refl _ none).alloc _)).gr hg3 (fun b o hd e => by rcases hof2 b e with q | q; exact hd.1 q; have := hd.2; omega)
        have hM3m : M3.length ≤ M.length + 1 := by omega
        have HM3 := Lib.hid hM3
        have HM3l := Lib.hid hM3l
        clear hM3 hM3l hg3 hor3 hown2 q5' r5''
        go_wp2_with fail
        refine (HA.out (St.count e) (by omega) e ae ce (some ⟨g3, 0, none⟩) cap3 M3 base w3 (Nat.le_refl _) (by omega) (by omega) he (d0_off (hof3 g3 rfl) r5c) hown3).mono ?_
        rintro e' w4 ⟨N, a4, c4, hN4, rfl, hown4, hg4, hor4⟩
        have hNl : N.length ≤ M3.length + 2 * St.count e ∧ M3.length ≤ N.length := by rw [hN4, List.length_append]; have := ptsL_le e M3.length; omega
        obtain ⟨hNl1, hNl2⟩ := hNl
        have HN := Lib.hid hN4
        have hof4 := own_next (hof3 g3 rfl) (by have := hgr.size; omega) hor4
        have hG4 : Gr w w4 (ob ao) := hG3.trans hg4 (by intro r hr; simp [ob] at hr; subst hr; exact hof3 g3 rfl)
        have hz4 : w3.heap.size ≤ w4.heap.size := hg4.size
        have hiL : L.length < N.length := by have := HL1n.out; have := HM3l.out; omega
        have hiM : M.length < N.length := by have := HM3l.out; omega
        have hNb : N.length ≤ 20000 := by omega
        obtain ⟨g4, rfl⟩ := hown4.addr (by omega)
        have hown5 := hown4.setAt (ns := [N.length]) (cs := #[.int .i64 (N.length : Int)]) (by omega) hiM (by simp) rfl
        have hG5 : Gr w4 ((w4.setCell ⟨g4, M.length * 5 + 4, none⟩ (.slice (some ⟨w4.heap.size, 0, none⟩) 1 1)).alloc (.cells #[.int .i64 (N.length : Int)] 3)) (some g4) := (own_set _ _ _ _).alloc _
        obtain ⟨⟨vo, hvo⟩, hfo⟩ := hown4.nextCell hiM
        have hq1 : ∀ o, (w4.alloc o).cell? ⟨g4, M.length * 5 + 4, none⟩ = some vo := fun o => ((Gr.refl w4 none).alloc o).cell hvo (by simp)
        have hq2 : ∀ o, (w4.alloc o).frozen? ⟨g4, M.length * 5 + 4, none⟩ = false := fun o => (((Gr.refl w4 none).alloc o).frozen (lt_of_cell hvo) (by simp)).trans hfo
        have hg4lt : g4 < w4.heap.size := lt_of_cell hvo
        clear hN4 hg4 hor4 hown3 r5c q5'' hown4
        go_upto_region 15 with fail
        generalize (w4.setCell ⟨g4, M.length * 5 + 4, none⟩ (.slice (some ⟨w4.heap.size, 0, none⟩) 1 1)).alloc (.cells #[.int .i64 (N.length : Int)] 3) = w5 at *
        obtain ⟨N1, hN1⟩ : ∃ N1, N.set M.length { N[M.length] with next := [N.length] } = N1 := ⟨_, rfl⟩
        rw [hN1] at hown5
        have hN1l : N1.length = N.length := by rw [← hN1]; simp
        have hiL1 : L.length < N1.length := by omega
        have HN1 := Lib.hid hN1
        have HN1l := Lib.hid hN1l
        clear hN1 hq1 hq2 hvo hfo
        obtain ⟨⟨vo2, hvo2⟩, hfo2⟩ := hown5.nextCell hiL1
        have hq1 : ∀ o, (w5.alloc o).cell? ⟨g4, L.length * 5 + 4, none⟩ = some vo2 := fun o => ((Gr.refl w5 none).alloc o).cell hvo2 (by simp)
        have hq2 : ∀ o, (w5.alloc o).frozen? ⟨g4, L.length * 5 + 4, none⟩ = false := fun o => (((Gr.refl w5 none).alloc o).frozen (lt_of_cell hvo2) (by simp)).trans hfo2
        have hg5lt : g4 < w5.heap.size := lt_of_cell hvo2
        have hz5 : w4.heap.size ≤ w5.heap.size := hG5.size
        have HG5 := Lib.hid hG5
        clear hN1l hG5
        go_wp2_with fail
        go_roundw
        case rel => exact ⟨k + 1, _, some ⟨g4, 0, none⟩, c4, by omega, by go_num, (if_list2 HL1.out HM.out HM3.out HN.out hiM HN1.out hiL1).trans (pts_rel HLL.out HPT.out rfl rfl), by simp [HN1l.out], hown5.setAt (ns := [L.length + 1, M.length + 1]) (by omega) hiL1 (by simp) rfl, ((hG4.trans HG5.out (by intro r hr; injection hr with hr; subst hr; exact hof4 g4 rfl)).trans (own_set w5 g4 _ _) (by intro r hr; injection hr with hr; subst hr; exact hof4 g4 rfl)).alloc _, hof4⟩
        case measure => simp [intOf]; omega
      · by_cases h10 : op = 10
        · have hop9 : (op == 9) = false := by simpa using h9
          have hop10 : (op == 10) = true := by simpa using h10
          subst h10
          go_wp2_with (at_builtin; refine app_pts wr _ rfl (.tmp 76) (.tmp 78) rfl base a1 c1 L rfl hPr ?g1b (by omega) hbw ⟨10, 0, 0, 0, []⟩ (.slice none 0 0) (wr.heap.size + 1) 1 rfl ?g2b ?g3b ?g4b ?_)
          case g1b => exact ((Gr.refl _ _).alloc _).alloc _
          case g2b => exact heap2_1 _ _ _
          case g3b => exact .inl ⟨rfl, rfl⟩
          case g4b => intro b hb; simp [Value.ownBlock] at hb
          intro L1 g1 cap1 w1 hL1 hown1 hg1 hor1
          have hL1n : L1.length = L.length + 1 := by rw [hL1]; simp
          have hof1 := own_rel hgr hfr hor1 (by omega) g1 rfl
          have hz1 : wr.heap.size + 1 + 1 ≤ w1.heap.size := by have := hg1.size; simpa using this
          have q4 : w1.cell? ⟨wr.heap.size, 4, none⟩ = some (.slice at' t.length ct) := hg1.cell (p := ⟨wr.heap.size, 4, none⟩) (cell_of_row _ _ _ _ _ _ (heap2_0 _ _ _)) (fun e => by have := HS.out _ e; simp at this)
          have hG1 : Gr w w1 (ob ao) := ((hgr.alloc _).alloc _).trans hg1 hfr
          have r4' := (r4.gr0 (((Gr.refl _ none).alloc _).alloc _)).gr hg1 (fun b o hd e => by rcases hfr b e with q | q; exact hd.1 q; have := hd.2; omega)
          have HL1 := Lib.hid hL1
          have hL1m : L1.length ≤ L.length + 1 := by omega
          have HL1n := Lib.hid hL1n
          clear c0 c1' c2 c3 c4 c5 hs r4 hL1 hL1n hg1 hor1 hPr
          go_wp2_with fail
          refine (HA.out (St.count t) (by omega) t at' ct (some ⟨g1, 0, none⟩) cap1 L1 base w1 (Nat.le_refl _) (by omega) (by omega) ht (d0_off hof1 r4') hown1).mono ?_
          rintro e' w2 ⟨M, a2, c2, hM, rfl, hown2, hg2, hor2⟩
          have hMl : M.length ≤ L1.length + 2 * St.count t ∧ L1.length ≤ M.length := by rw [hM, List.length_append]; have := ptsL_le t L1.length; omega
          obtain ⟨hMl1, hMl2⟩ := hMl
          have HM := Lib.hid hM
          have hof2 := own_next hof1 (by have := hgr.size; omega) hor2
          have hG2 : Gr w w2 (ob ao) := hG1.trans hg2 (by intro r hr; simp [ob] at hr; subst hr; exact hof1)
          have hz2 : w1.heap.size ≤ w2.heap.size := hg2.size
          clear hM hg2 hor2 q4 hown1 r4' r5
          go_wp2_with (at_builtin; refine app_pts w2 _ rfl (.tmp 84) (.tmp 88) rfl base a2 c2 M rfl hown2 ?g1c (by omega) (by omega) ⟨10, 0, 0, 1, [L.length]⟩ (.slice (some ⟨w2.heap.size, 0, none⟩) 1 1) (w2.heap.size + 1) 1 rfl ?g2c ?g3c ?g4c ?_)
          case g1c => exact ((Gr.refl _ _).alloc _).alloc _
          case g2c => exact heap2_1 _ _ _
          case g3c => exact .inr ⟨w2.heap.size, rfl, by omega, heap2_0 _ _ _⟩
          case g4c => intro b hb; simp [Value.ownBlock] at hb; omega
          intro M3 g3 cap3 w3 hM3 hown3 hg3 hor3
          have hM3l : M3.length = M.length + 1 := by rw [hM3]; simp
          have hM3a : L.length < M3.length := by have := HL1n.out; omega
          have hM3b : M3.length ≤ 20000 := by omega
          have hof3 := own_rel hG2 hof2 hor3 (by omega)
          have hz3 : w2.heap.size + 1 + 1 ≤ w3.heap.size := by have := hg3.size; simpa using this
          have hG3 : Gr w w3 (ob ao) := ((hG2.alloc _).alloc _).trans hg3 hof2
          obtain ⟨⟨vo, hvo⟩, hfo⟩ := hown3.nextCell hM3a
          have hq1 : ∀ o, (w3.alloc o).cell? ⟨g3, L.length * 5 + 4, none⟩ = some vo := fun o => ((Gr.refl w3 none).alloc o).cell hvo (by simp)
          have hq2 : ∀ o, (w3.alloc o).frozen? ⟨g3, L.length * 5 + 4, none⟩ = false := fun o => (((Gr.refl w3 none).alloc o).frozen (lt_of_cell hvo) (by simp)).trans hfo
          have hg3lt : g3 < w3.heap.size := lt_of_cell hvo
          have HM3 := Lib.hid hM3
          clear hM3 hM3l hg3 hor3 hown2
          go_wp2_with fail
          go_roundw
          case rel => exact ⟨k + 1, _, some ⟨g3, 0, none⟩, cap3, by omega, by go_num, (loop_list HL1.out HM.out HM3.out hM3a).trans (pts_rel HLL.out HPT.out rfl rfl), by simp, hown3.setAt (ns := [L.length + 1, M3.length]) (by omega) hM3a (by simp) rfl, (hG3.trans (own_set w3 g3 _ _) (by intro r hr; injection hr with hr; subst hr; exact hof3 g3 rfl)).alloc _, hof3⟩
          case measure => simp [intOf]; omega
        · have hop9 : (op == 9) = false := by simpa using h9
          have hop10 : (op == 10) = false := by simpa using h10
          go_wp2_with (at_builtin; refine app_pts wr _ rfl (.tmp 23) (.tmp 36) rfl base a1 c1 L rfl hPr ?g1 (by omega) hbw ⟨op, x, y, nn, [L.length + 1]⟩ (.slice (some ⟨wr.heap.size + 1, 0, none⟩) 1 1) (wr.heap.size + 1 + 1) 1 rfl ?g2 ?g3 ?g4 ?_)
          case g1 => exact (((Gr.refl _ _).alloc _).alloc _).alloc _
          case g2 => exact heap3_2 _ _ _ _
          case g3 => exact .inr ⟨wr.heap.size + 1, rfl, by omega, heap3_1 _ _ _ _⟩
          case g4 => intro b hb; simp [Value.ownBlock] at hb; omega
          intro L' g cap' w' hL' hown' hg' hor
          have HL' := Lib.hid hL'
          clear c0 c1' c2 c3 c4 c5 hs r4 r5 hP hL'
          go_wp2_with fail
          go_roundw
          case rel => exact ⟨k + 1, L', some ⟨g, 0, none⟩, cap', by omega, by go_num, by rw [HL'.out]; exact pts_rel HLL.out HPT.out rfl (by rw [ptsS, hop9, hop10]; rfl), rfl, hown', ((((hgr.alloc _).alloc _).alloc _).trans hg' (by intro r hr; exact hfr r hr)), own_rel hgr hfr hor (by omega)⟩
          case measure => simp [intOf]; omega
    · have hf : l.take k = l := List.take_of_length_le (by omega)
      have hLL2 := HLL.out
      rw [hf] at hLL2
      have HL2 := Lib.hid hLL2
      clear hLL2 hf
      go_wp2
      go_ret
      exact ⟨L, a1, c1, HL2.out, rfl, hPr, hgr, hfr⟩

theorem add_all : ∀ n, AddC n := fun n => Nat.strongRecOn n fun n ih => add_step n ih
end Go.Proofs.Ytadidppbhpdnkaa

namespace Go.Proofs.Ytadidppbhpdnkaa

open Go.RowKit

/-- The points of a program. -/
def pts (p : Pr) : List Pt := ptsL p.body 0 ++ [⟨11, 0, 0, 0, []⟩]
theorem pts_le (p : Pr) : (pts p).length ≤ 1 + 2 * St.count p.body := by
  have := ptsL_le p.body 0
  simp only [pts, List.length_append, List.length_cons, List.length_nil]; omega

/-- The points L are handed back, in new memory. -/
def Handed (L : List Pt) (w : World) (e : Ending) (w' : World) : Prop :=
  ∃ (M : List Pt) (a : Option Addr) (c : Nat), M = L ∧ e = .returned (.slice a M.length c) ∧ PtsOwn w' w.heap.size a c M ∧ Gr w w' none

theorem PtsOwn.empty {w : World} {base g : Nat} (hb : base ≤ g) (h : w.heap[g]? = some (.cells #[] 44 (0, 0))) : PtsOwn w base (some ⟨g, 0, none⟩) 0 [] :=
  ⟨[], rfl, ⟨by simp [flat], .inr ⟨g, 0, #[], rfl, hb, h, Nat.le_refl _, by unfold maxLen; omega, rfl, by simp [flat]⟩⟩, by simp, by simp⟩
theorem PtsOwn.base {w : World} {b b' : Nat} {a : Option Addr} {c : Nat} {l : List Pt} (h : PtsOwn w b a c l) (hb : b' ≤ b) : PtsOwn w b' a c l := by
  obtain ⟨nv, hl, ho, hn, hd⟩ := h
  refine ⟨nv, hl, own_mono ho hb, fun i hi => ?_, hd⟩
  rcases hn i hi with h1 | ⟨g, h1, h2, h3⟩
  · exact .inl h1
  · exact .inr ⟨g, h1, by omega, h3⟩

set_option maxRecDepth 100000 in
set_option maxHeartbeats 1000000 in
theorem points_any (p : Pr) (at' ab : Option Addr) (ct cb : Nat) (w : World) (hB : SlAt w Any p.body ab) (hc : St.count p.body ≤ 1000) (hl : p.body.length ≤ maxLen) :
    Calls Try.prog 60 #[.agg #[.slice at' p.types.length ct, .slice ab p.body.length cb]] w (Handed (pts p) w) := by
  have hg1 : ∀ o, Gr w (w.alloc o) none := fun o => (Gr.refl _ _).alloc _
  go_enter Try.func60, Try.ntmps60
  go_wp2_with fail
  refine (points_all (St.count p.body) p.body ab cb none 0 [] w.heap.size _ (Nat.le_refl _) (by simp; omega) (by simp) hl (SlAt.mono (fun _ _ _ => by simp [Off, ob]) (fun _ _ _ _ _ _ h => h) _ _ (hB.gr0 (hg1 _))) (PtsOwn.nil _ _)).mono ?_
  rintro e w1 ⟨M, a1, c1, hM, rfl, hown, hg, _⟩
  have hMl : M.length ≤ 2000 := by rw [hM]; have := ptsL_le p.body 0; simp; omega
  have HM := Lib.hid hM
  have hG : Gr w w1 none := (hg1 _).trans0 hg
  have hz : w.heap.size ≤ w1.heap.size := hG.size
  clear hM hg
  go_wp2_with (at_builtin; refine app_pts w1 _ rfl (.tmp 5) (.tmp 7) rfl w.heap.size a1 c1 M rfl hown ?g1 (by omega) (by omega) ⟨11, 0, 0, 0, []⟩ (.slice none 0 0) w1.heap.size 1 rfl ?g2 ?g3 ?g4 ?_)
  case g1 => exact (Gr.refl _ _).alloc _
  case g2 => exact heap1_0 _ _
  case g3 => exact .inl ⟨rfl, rfl⟩
  case g4 => intro b hb; simp [Value.ownBlock] at hb
  intro L' g cap' w' hL' hown' hg' hor
  have HL' := Lib.hid hL'
  have hrow := fun g h => (hown.row g h).1
  have hG2 : Gr w w' none := ⟨hg'.os.trans hG.os, hg'.tape.trans hG.tape, hg'.output.trans hG.output, by have := hg'.size; simp at this; omega, fun k hk _ => by
    rw [hg'.block k (by simp; omega) (fun e => by have := hrow k e.symm; omega), Below.heap_alloc _ _ _ (by omega), hG.block k hk (by simp)]⟩
  clear hL' hg' hor hrow
  go_wp2_with fail
  go_ret
  exact ⟨L', _, _, by rw [HL'.out, HM.out]; simp [pts], rfl, hown', hG2⟩

set_option maxRecDepth 100000 in
set_option maxHeartbeats 1000000 in
theorem l2Points_any (p : Pr) (at' ab : Option Addr) (ct cb : Nat) (w : World) (hB : SlAt w Any p.body ab) (hc : St.count p.body ≤ 1000) (hl : p.body.length ≤ maxLen) :
    Calls Try.prog 51 #[.agg #[.slice at' p.types.length ct, .slice ab p.body.length cb]] w (Handed (pts p) w) := by
  have hg1 : ∀ o o', Gr w ((w.alloc o).alloc o') none := fun o o' => ((Gr.refl _ _).alloc _).alloc _
  go_enter Try.func51, Try.ntmps51
  go_wp2_with fail
  refine (add_all (St.count p.body) p.body ab cb (some ⟨w.heap.size + 1, 0, none⟩) 0 [] (w.heap.size + 1) _ (Nat.le_refl _) (by simp; omega) (by simp) hl ((hB.old (n := w.heap.size + 1) (by omega)).gr0 (hg1 _ _)) (PtsOwn.empty (Nat.le_refl _) (heap2_1 _ _ _))).mono ?_
  rintro e w1 ⟨M, a1, c1, hM, rfl, hown, hg, _⟩
  have hMl : M.length ≤ 2000 := by rw [hM]; have := ptsL_le p.body 0; simp; omega
  have HM := Lib.hid hM
  have hG : Gr w w1 none := (hg1 _ _).trans hg (by intro r hr; injection hr with hr; subst hr; right; exact Nat.le_succ _)
  have hz : w.heap.size + 1 + 1 ≤ w1.heap.size := by have := hg.size; simpa using this
  clear hM hg
  go_wp2_with (at_builtin; refine app_pts w1 _ rfl (.tmp 6) (.tmp 8) rfl w.heap.size a1 c1 M rfl (hown.base (by omega)) ?g1 (by omega) (by omega) ⟨11, 0, 0, 0, []⟩ (.slice none 0 0) w1.heap.size 1 rfl ?g2 ?g3 ?g4 ?_)
  case g1 => exact (Gr.refl _ _).alloc _
  case g2 => exact heap1_0 _ _
  case g3 => exact .inl ⟨rfl, rfl⟩
  case g4 => intro b hb; simp [Value.ownBlock] at hb
  intro L' g cap' w' hL' hown' hg' hor
  have HL' := Lib.hid hL'
  have hrow := fun g h => (hown.row g h).1
  have hG2 : Gr w w' none := ⟨hg'.os.trans hG.os, hg'.tape.trans hG.tape, hg'.output.trans hG.output, by have := hg'.size; simp at this; omega, fun k hk _ => by
    rw [hg'.block k (by simp; omega) (fun e => by have := hrow k e.symm; omega), Below.heap_alloc _ _ _ (by omega), hG.block k hk (by simp)]⟩
  clear hL' hg' hor hrow
  go_wp2_with fail
  go_ret
  exact ⟨L', _, _, by rw [HL'.out, HM.out]; simp [pts], rfl, hown', hG2⟩

/-- The graph of a program lies in block gb. -/
def GraphAt (w : World) (p : Pr) (gb : Nat) : Prop := ∃ (L : List Pt) (at' : Option Addr) (ct : Nat) (ab : Option Addr) (cb : Nat) (al : Option Addr) (cl : Nat), L = pts p ∧
  w.cell? ⟨gb, 0, none⟩ = some (.slice at' p.types.length ct) ∧ w.cell? ⟨gb, 1, none⟩ = some (.slice ab p.body.length cb) ∧ w.cell? ⟨gb, 2, none⟩ = some (.slice al L.length cl) ∧
  InAt w Any p.types at' ∧ SlAt w Any p.body ab ∧ PtsAt w L al
theorem GraphAt.gr {w w' : World} {p : Pr} {gb : Nat} (h : GraphAt w p gb) (hg : Gr w w' none) : GraphAt w' p gb := by
  obtain ⟨L, at', ct, ab, cb, al, cl, hL, c0, c1, c2, h1, h2, h3⟩ := h
  exact ⟨L, at', ct, ab, cb, al, cl, hL, hg.cell c0 (by simp), hg.cell c1 (by simp), hg.cell c2 (by simp), h1.gr0 hg, h2.gr0 hg, h3.gr hg⟩

/-- Is the program valid, and are these points of it? -/
def graphOk (p : Pr) (qs : List Int) : Bool := validP p && qs.all fun q => within q 0 (((pts p).length : Int) - 1)
/-- What graphOf hands back. -/
def Graphed (p : Pr) (qs : List Int) (w : World) (e : Ending) (w' : World) : Prop :=
  Gr w w' none ∧ (if graphOk p qs = true then ∃ gb, e = .returned (.tuple #[.pointer (some ⟨gb, 0, none⟩), .bool true]) ∧ w.heap.size ≤ gb ∧ GraphAt w' p gb else e = .returned (.tuple #[.pointer none, .bool false]))

theorem count_length (l : List St) : l.length ≤ St.count l := by
  induction l with
  | nil => simp
  | cons s r ih => simp only [List.length_cons, St.count]; omega

theorem graph_new {w : World} {p : Pr} {M : List Pt} {at' ab a : Option Addr} {ct cb c : Nat} (hM : M = pts p) (hT : InAt w Any p.types at') (hB : SlAt w Any p.body ab) (hP : PtsAt w M a) :
    GraphAt (w.alloc (.cells #[.slice at' p.types.length ct, .slice ab p.body.length cb, .slice a M.length c] 67)) p w.heap.size := by
  have hg := (Gr.refl w none).alloc (.cells #[.slice at' p.types.length ct, .slice ab p.body.length cb, .slice a M.length c] 67)
  have hh := heap1_0 w (.cells #[.slice at' p.types.length ct, .slice ab p.body.length cb, .slice a M.length c] 67)
  exact ⟨M, at', ct, ab, cb, a, c, hM, cell_of_row _ _ 0 _ _ _ hh, cell_of_row _ _ 1 _ _ _ hh, cell_of_row _ _ 2 _ _ _ hh, hT.gr0 hg, hB.gr0 hg, hP.gr hg⟩
set_option maxRecDepth 100000 in
set_option maxHeartbeats 2000000 in
theorem graphOf_any (p : Pr) (qs : List Int) (at' ab aq : Option Addr) (ct cb cq : Nat) (w : World) (hT : InAt w Any p.types at') (hB : SlAt w Any p.body ab) (hQ : InAt w Any qs aq) (hlt : p.types.length ≤ 1048576) (hlb : p.body.length ≤ 1048576) (hlq : qs.length ≤ 1048576) :
    Calls Try.prog 47 #[.agg #[.slice at' p.types.length ct, .slice ab p.body.length cb], .slice aq qs.length cq] w (Graphed p qs w) := by
  have hg1 : ∀ o, Gr w (w.alloc o) none := fun o => (Gr.refl _ _).alloc _
  cases hv : validP p with
  | false =>
    have HV := Lib.hid hv
    clear hv
    go_enter Try.func47, Try.ntmps47
    go_wp2_with fail
    refine (valid_any p at' ab ct cb _ (hT.gr0 (hg1 _)) (hB.gr0 (hg1 _)) hlt hlb).mono ?_
    rw [HV.out]
    rintro e w1 ⟨rfl, hg⟩
    go_wp2_with fail
    go_ret2
    exact ⟨(hg1 _).trans0 hg, by rw [if_neg (by rw [graphOk, HV.out]; simp)]; rfl⟩
  | true =>
    have hcnt := valid_count hv
    have HV := Lib.hid hv
    clear hv
    go_enter Try.func47, Try.ntmps47
    go_wp2_with fail
    refine (valid_any p at' ab ct cb _ (hT.gr0 (hg1 _)) (hB.gr0 (hg1 _)) hlt hlb).mono ?_
    rw [HV.out]
    rintro e w1 ⟨rfl, hg⟩
    have hG1 : Gr w w1 none := (hg1 _).trans0 hg
    have q0 : w1.cell? ⟨w.heap.size, 0, none⟩ = some (.slice at' p.types.length ct) := hg.cell (p := ⟨w.heap.size, 0, none⟩) (cell?_new2 _ _).1 (by simp)
    have q1 : w1.cell? ⟨w.heap.size, 1, none⟩ = some (.slice ab p.body.length cb) := hg.cell (p := ⟨w.heap.size, 1, none⟩) (cell?_new2 _ _).2 (by simp)
    clear hg
    go_upto_region 3 with fail
    go_cut [6] (fun s6 wx => ∃ gb, s6 = .pointer (some ⟨gb, 0, none⟩) ∧ w.heap.size ≤ gb ∧ GraphAt wx p gb ∧ Gr w wx none)
    case first =>
      go_region_with (go_at_call 60; refine (points_any p at' ab ct cb _ (by exact hB.gr0 hG1.drew) (by omega) (by unfold maxLen; omega)).mono ?_; rintro e w2 ⟨M, a, c, hM, rfl, hown, hg2⟩; have HM := Lib.hid hM; have q0' := hg2.cell q0 (by simp); have q1' := hg2.cell q1 (by simp); clear hM)
      all_goals
        go_wp2_with fail
        go_meet
        exact ⟨w2.heap.size, rfl, (hG1.drew.trans0 hg2).size, graph_new HM.out (hT.gr0 (hG1.drew.trans0 hg2)) (hB.gr0 (hG1.drew.trans0 hg2)) hown.read, (hG1.drew.trans0 hg2).alloc _⟩
    case rest =>
      obtain ⟨gb, rfl, hgb, hGA, hG⟩ := hcut
      obtain ⟨L, a3, n3, a4, n4, al, cl, hL, d0, d1, d2, hr1, hr2, hr3⟩ := hGA
      have hLl : L.length ≤ 100 ∧ 1 ≤ L.length := by rw [hL]; have := pts_le p; exact ⟨by omega, by simp [pts]⟩
      obtain ⟨hLl1, hLl2⟩ := hLl
      have HGA : GraphAt wc p gb := ⟨L, a3, n3, a4, n4, al, cl, hL, d0, d1, d2, hr1, hr2, hr3⟩
      have HL := Lib.hid hL
      clear hL d0 d1 hr1 hr2 hr3
      go_wp2
      go_loop [19] (fun i => ∃ k : Nat, k ≤ qs.length ∧ i = .int .i64 k ∧ ((qs.take k).all fun q => within q 0 ((L.length : Int) - 1)) = true) (fun i => qs.length - (intOf i).toNat)
      case atStart => exact ⟨0, Nat.zero_le _, rfl, by simp⟩
      case round =>
        obtain ⟨k, hk, rfl, hall⟩ := hrel
        have HA := Lib.hid hall
        clear hall
        by_cases hlt' : k < qs.length
        · obtain ⟨b, off, rfl, _, hc⟩ := (hQ.gr0 hG).at hlt'
          obtain ⟨x, ex⟩ : ∃ x, qs[k] = x := ⟨_, rfl⟩
          rw [ex] at hc
          have EX := Lib.hid ex
          clear ex
          cases hw : within x 0 ((L.length : Int) - 1) with
          | false =>
            have HW := Lib.hid hw
            clear hw
            go_wp2_with (go_at_call 56; refine (within_any _ _ _ _).mono ?_; rw [HW.out]; rintro e w' ⟨rfl, rfl⟩)
            go_ret2
            exact ⟨hG, by rw [if_neg (by rw [graphOk, ← HL.out, all_at_false hlt' (by rw [EX.out]; exact HW.out)]; simp)]; rfl⟩
          | true =>
            have HW := Lib.hid hw
            clear hw
            go_wp2_with (go_at_call 56; refine (within_any _ _ _ _).mono ?_; rw [HW.out]; rintro e w' ⟨rfl, rfl⟩)
            go_round
            case rel => exact ⟨k + 1, by omega, by go_num, all_take_succ hlt' HA.out (by rw [EX.out]; exact HW.out)⟩
            case measure => simp [intOf]; omega
        · have hf := all_take_all (by omega) HA.out
          have HF := Lib.hid hf
          clear hf
          go_wp2
          go_ret2
          exact ⟨hG, by rw [if_pos (by rw [graphOk, HV.out, ← HL.out, HF.out]; rfl)]; exact ⟨gb, rfl, hgb, HGA⟩⟩
end Go.Proofs.Ytadidppbhpdnkaa
