/- What is known of loans, as the reference keeps it: the walk of l4After. -/
import Derived.Test.YtadlnjglpigjmaaEO

import Derived.Test.YtadlnjglpigjmaaEM

import Derived.Deep.CutBlock

namespace Go.Proofs.Ytadlnjglpigjmaa

open Go.RowKit

/-- What is known behind a point. -/
def valE (T : List Int) (L : List Pt) (i : Nat) (F : Nat → Nat → Bool) (k : Nat) : Bool := (lnB L i && decide (k = i)) || (cbB T L i && F (yN L i) k)
def aftF (T : List Int) (L : List Pt) (i : Nat) (F : Nat → Nat → Bool) (v k : Nat) : Bool :=
  if setOf (ptAt L i).op (ptAt L i).x = (v : Int) then valE T L i F k else if tkL T L i v = true then false else F v k
def aftP (T : List Int) (L : List Pt) (i : Nat) (P : Nat → Bool) (k : Nat) : Bool := (lnB L i && decide (k = i)) || (P k && !lostB T L i k)
def fU (T : List Int) (L : List Pt) (i : Nat) (F : Nat → Nat → Bool) (u v k : Nat) : Bool := if v < u ∧ tkL T L i v = true then false else F v k
def pU (T : List Int) (L : List Pt) (i : Nat) (P : Nat → Bool) (u k : Nat) : Bool := P k && !(lnB L k && (decide (yN L k < u) && tkL T L i (yN L k)))
theorem StE.congr {w : World} {lo m n : Nat} {fa : Option Addr} {hs : List (Nat × Nat)} {gp pc : Nat} {F F' : Nat → Nat → Bool} {P P' : Nat → Bool} (h : StE w lo m n fa hs gp pc F P) (hF : ∀ v k, v < m → k < n → F v k = F' v k) (hP : ∀ k, k < n → P k = P' k) : StE w lo m n fa hs gp pc F' P' := by
  obtain ⟨h1, h2, h3, h4, h5, h6, h7, h8⟩ := h
  exact ⟨h1, h2, fun j hj => ⟨(h3 j hj).1, (h3 j hj).2.congr fun k hk => hF j k (by omega) hk⟩, h4, h5.congr hP, h6, h7, h8⟩
theorem rowsE_set {w : World} {n b off u g c : Nat} {hs : List (Nat × Nat)} (h : RowsAt 1 w Any (hs.map (gRowE n)) (some ⟨b, off, none⟩)) (hu : u < hs.length) : RowsAt 1 (w.setCell ⟨b, off + u, none⟩ (.slice (some ⟨g, 0, none⟩) n c)) Any ((hs.set u (g, c)).map (gRowE n)) (some ⟨b, off, none⟩) := by
  obtain ⟨b', o', e, c0⟩ := hsE_cell h hu
  cases e
  intro i hi
  have hi' : i < hs.length := by simpa using hi
  refine ⟨b, off, rfl, trivial, fun j v hv => ?_⟩
  rw [List.getElem_map] at hv
  have hj : j = 0 := by
    have := (List.getElem?_eq_some_iff.1 hv).1
    unfold gRowE at this
    simp only [List.length_cons, List.length_nil] at this
    omega
  subst hj
  by_cases e : i = u
  · subst e
    simp [gRowE] at hv
    subst hv
    rw [Nat.mul_one, Nat.add_zero]
    exact World.cell?_setCell_same _ _ _ c0
  · have hv' : v = .slice (some ⟨hs[i].1, 0, none⟩) n hs[i].2 := by
      simp only [gRowE, List.getElem?_cons_zero, Option.some.injEq] at hv
      rw [← hv, List.getElem_set_ne (fun h => e h.symm)]
    obtain ⟨b2, o2, e2, c2⟩ := hsE_cell h hi'
    cases e2
    rw [hv', Nat.mul_one, Nat.add_zero, World.cell?_setCell_other _ _ _ _ (by intro h; simp at h <;> omega)]
    exact c2
/-- One row of a state is another one. -/
theorem StE.put {w : World} {lo m n b off u g c : Nat} {hs : List (Nat × Nat)} {gp pc : Nat} {F : Nat → Nat → Bool} {P H : Nat → _} (h : StE w lo m n (some ⟨b, off, none⟩) hs gp pc F P) (hu : u < m) (hg : RowE w g n c H) (hlo : lo ≤ g) (hgp : g ≠ gp) (hgh : ∀ x ∈ hs, x.1 ≠ g) : StE (w.setCell ⟨b, off + u, none⟩ (.slice (some ⟨g, 0, none⟩) n c)) lo m n (some ⟨b, off, none⟩) (hs.set u (g, c)) gp pc (fun v k => if v = u then H k else F v k) P := by
  obtain ⟨h1, h2, h3, h4, h5, h6, h7, h8⟩ := h
  have hul : u < hs.length := by omega
  obtain ⟨hlb, cs, hc⟩ := h8 b rfl
  have hgr := own_set w b (off + u) (.slice (some ⟨g, 0, none⟩) n c)
  refine ⟨by simpa using h1, rowsE_set h2 hul, fun j hj => ?_, h4, h5.gr hgr (fun e => h5.off' hc (by decide) (by simpa using e)), fun x hx => ?_, ?_, fun b' hb' => ?_⟩
  · have hj' : j < hs.length := by simpa using hj
    by_cases e : j = u
    · subst e
      simp only [List.getElem_set_self, if_true]
      exact ⟨hlo, hg.gr hgr (fun e => hg.off' hc (by decide) (by simpa using e))⟩
    · rw [List.getElem_set_ne (fun h => e h.symm)]
      simp only [if_neg e]
      exact ⟨(h3 j hj').1, (h3 j hj').2.gr hgr (fun e => (h3 j hj').2.off' hc (by decide) (by simpa using e))⟩
  · rcases List.mem_or_eq_of_mem_set hx with hx | rfl
    · exact h6 x hx
    · exact hgp
  · rw [List.map_set]
    show ((hs.map Prod.fst).set u g).Nodup
    rw [List.nodup_iff_pairwise_ne, List.pairwise_iff_getElem]
    intro i j hi hj hij
    have hi' : i < hs.length := by simpa using hi
    have hj' : j < hs.length := by simpa using hj
    have hp := List.pairwise_iff_getElem.1 (List.nodup_iff_pairwise_ne.1 h7) i j (by simpa using hi') (by simpa using hj') hij
    by_cases e1 : i = u
    · subst e1
      rw [List.getElem_set_self, List.getElem_set_ne (by omega)]
      simp only [List.getElem_map]
      exact fun e => hgh _ (List.getElem_mem hj') e.symm
    · by_cases e2 : j = u
      · subst e2
        rw [List.getElem_set_self, List.getElem_set_ne (by omega)]
        simp only [List.getElem_map]
        exact fun e => hgh _ (List.getElem_mem hi') e
      · rw [List.getElem_set_ne (by omega), List.getElem_set_ne (by omega)]
        exact hp
  · obtain rfl : b = b' := by simpa [ob] using hb'
    refine ⟨hlb, ?_⟩
    exact ⟨_, row_set _ hc⟩
/-- The row of the loans that are placed is another one. -/
theorem StE.putP {w w' : World} {lo m n : Nat} {fa : Option Addr} {hs : List (Nat × Nat)} {gp pc : Nat} {F : Nat → Nat → Bool} {P P' : Nat → Bool} (h : StE w lo m n fa hs gp pc F P) (hg : Gr w w' (some gp)) (hP : RowE w' gp n pc P') : StE w' lo m n fa hs gp pc F P' := by
  obtain ⟨h1, h2, h3, h4, h5, h6, h7, h8⟩ := h
  have hf : ∀ b, ob fa = some b → some gp ≠ some b := fun b hb e => by
    obtain ⟨_, cs, hc⟩ := h8 b hb
    exact h5.off' hc (by decide) (by simpa using e.symm)
  refine ⟨h1, h2.off hg hf, h3.gr hg (fun x hx e => h6 x hx (by simpa using e.symm)), h4, hP, h6, h7, fun b hb => ⟨(h8 b hb).1, ?_⟩⟩
  obtain ⟨_, cs, hc⟩ := h8 b hb
  exact ⟨cs, by rw [hg.block b (lt_of_block hc) (fun e => hf b hb e.symm)]; exact hc⟩
theorem pU_step {T : List Int} {L : List Pt} {i u k n : Nat} {P : Nat → Bool} (hy : ∀ k, k < n → lnB L k = true → (ptAt L k).y = (yN L k : Int)) (hk : k < n) (ht : tkL T L i u = true) : (pU T L i P u k && !fromB L (u : Int) k) = pU T L i P (u + 1) k := by
  unfold pU fromB
  cases hl : lnB L k with
  | false => simp
  | true =>
    rw [hy k hk hl]
    by_cases e : yN L k = u
    · rw [e, ht]; cases P k <;> simp
    · have e2 : ¬ ((yN L k : Int) = (u : Int)) := by omega
      have : (yN L k < u + 1) = (yN L k < u) := by apply propext; omega
      simp [e2, this]
theorem pU_same {T : List Int} {L : List Pt} {i u k : Nat} {P : Nat → Bool} (ht : tkL T L i u = false) : pU T L i P u k = pU T L i P (u + 1) k := by
  unfold pU
  by_cases e : yN L k = u
  · rw [e, ht]; simp
  · have : (yN L k < u + 1) = (yN L k < u) := by apply propext; omega
    simp [this]
theorem fU_step {T : List Int} {L : List Pt} {i u v k : Nat} {F : Nat → Nat → Bool} (ht : tkL T L i u = true) : (if v = u then false else fU T L i F u v k) = fU T L i F (u + 1) v k := by
  unfold fU
  by_cases e : v = u
  · subst e; simp [ht]
  · have : (v < u + 1) = (v < u) := by apply propext; omega
    simp [e, this]
theorem fU_same {T : List Int} {L : List Pt} {i u v k : Nat} {F : Nat → Nat → Bool} (ht : tkL T L i u = false) : fU T L i F u v k = fU T L i F (u + 1) v k := by
  unfold fU
  by_cases e : v = u
  · subst e; simp [ht]
  · have : (v < u + 1) = (v < u) := by apply propext; omega
    simp [this]
theorem tk_hi {T : List Int} {L : List Pt} {i v : Nat} (h : T.length ≤ v) : tkL T L i v = false := useB_out h
theorem aftF_pos {T : List Int} {L : List Pt} {i sj v k m : Nat} {F : Nat → Nat → Bool} (hs : setOf (ptAt L i).op (ptAt L i).x = (sj : Int)) (hv : v < m) : (if v = sj then valE T L i F k else fU T L i F m v k) = aftF T L i F v k := by
  unfold aftF fU
  rw [hs]
  by_cases e : v = sj
  · subst e; simp
  · have e2 : ¬ ((sj : Int) = (v : Int)) := by omega
    simp [e, e2, hv]
theorem aftF_neg {T : List Int} {L : List Pt} {i v k m : Nat} {F : Nat → Nat → Bool} (hs : setOf (ptAt L i).op (ptAt L i).x < 0) (hv : v < m) : fU T L i F m v k = aftF T L i F v k := by
  unfold aftF fU
  have e2 : ¬ (setOf (ptAt L i).op (ptAt L i).x = (v : Int)) := by omega
  simp [e2, hv]
theorem aftP_pos {T : List Int} {L : List Pt} {i sj k m n : Nat} {P : Nat → Bool} (hs : setOf (ptAt L i).op (ptAt L i).x = (sj : Int)) (hm : T.length = m) (hy : ∀ k, k < n → lnB L k = true → (ptAt L k).y = (yN L k : Int)) (hk : k < n) : (pU T L i P m k && !fromB L (sj : Int) k) = (P k && !lostB T L i k) := by
  unfold pU fromB lostB
  cases hl : lnB L k with
  | false => simp
  | true =>
    rw [hy k hk hl]
    have h1 : stL L i (yN L k) = decide ((yN L k : Int) = (sj : Int)) := by
      unfold stL setsB; rw [hs]; exact decide_eq_decide.2 ⟨fun h => h.symm, fun h => h.symm⟩
    have h2 : (decide (yN L k < m) && tkL T L i (yN L k)) = tkL T L i (yN L k) := by
      by_cases h : yN L k < m
      · rw [decide_eq_true h, Bool.true_and]
      · rw [tk_hi (by omega), Bool.and_false]
    rw [h1, h2]
    cases P k <;> cases tkL T L i (yN L k) <;> simp
theorem aftP_neg {T : List Int} {L : List Pt} {i k m : Nat} {P : Nat → Bool} (hs : setOf (ptAt L i).op (ptAt L i).x < 0) (hm : T.length = m) : pU T L i P m k = (P k && !lostB T L i k) := by
  unfold pU lostB
  have h1 : stL L i (yN L k) = false := by unfold stL setsB; exact decide_eq_false (by omega)
  have h2 : (decide (yN L k < m) && tkL T L i (yN L k)) = tkL T L i (yN L k) := by
    by_cases h : yN L k < m
    · rw [decide_eq_true h, Bool.true_and]
    · rw [tk_hi (by omega), Bool.and_false]
  rw [h1, h2, Bool.or_false]
/-- What lies in these blocks is as it was. -/
def KeepB (bs : List Nat) (w w' : World) : Prop := ∀ b ∈ bs, w'.heap[b]? = w.heap[b]?
theorem KeepB.gr {bs : List Nat} {w w' w'' : World} {row : Option Nat} (h : KeepB bs w w') (hg : Gr w' w'' row) (hb : ∀ b ∈ bs, b < w'.heap.size ∧ row ≠ some b) : KeepB bs w w'' :=
  fun b hm => by rw [hg.block b (hb b hm).1 (fun e => (hb b hm).2 e.symm)]; exact h b hm
set_option maxRecDepth 100000 in
set_option maxHeartbeats 8000000 in
theorem l4After_any (T : List Int) (at' : Option Addr) (ct : Nat) (L : List Pt) (am : Option Addr) (ca i lo m n : Nat) (fa : Option Addr) (fc gp pc : Nat) (hh : List (Nat × Nat)) (F : Nat → Nat → Bool) (P : Nat → Bool) (w : World) (hT : InAt w Any T at') (hm : T.length = m) (hm6 : m ≤ 6) (hR : PtsAt w L am) (hn : L.length = n) (hn1 : n ≤ 61) (hi : i < n) (hS : StE w lo m n fa hh gp pc F P)
    (hln : ∀ k, k < n → lnB L k = true → (ptAt L k).y = (yN L k : Int)) (hy : (ptAt L i).op = 3 ∨ (ptAt L i).op = 4 ∨ (ptAt L i).op = 5 → ∃ j : Nat, (ptAt L i).y = j ∧ j < m) (hst : -1 ≤ setOf (ptAt L i).op (ptAt L i).x ∧ setOf (ptAt L i).op (ptAt L i).x < m) :
    Calls Try.prog 112 #[.slice at' m ct, .slice am n ca, .int .i64 i, .agg #[.slice fa m fc, .slice (some ⟨gp, 0, none⟩) n pc]] w (StR m n (aftF T L i F) (aftP T L i P) w) := by
  have HT := Lib.hid hT
  have HM := Lib.hid hm
  have HR := Lib.hid hR
  have HN := Lib.hid hn
  have HLN := Lib.hid hln
  have hiL : i < L.length := by omega
  obtain ⟨b, po, rfl, an, cn, c0, c1, c2, c3, c4, -, -⟩ := hR i hiL
  have hblt : b < w.heap.size := lt_of_cell c0
  obtain ⟨q, eq⟩ : ∃ q, L[i] = q := ⟨_, rfl⟩
  rw [eq] at c0 c1 c2 c3 c4
  have hpa : ptAt L i = q := (ptAt_get hiL).trans eq
  rw [hpa] at hy hst
  have HPA := Lib.hid hpa
  have HY := Lib.hid hy
  obtain ⟨nn, hnn⟩ : ∃ nn, q.next.length = nn := ⟨_, rfl⟩
  rw [hnn] at c4
  have hmk := fun w : World => run_make_row' (P := Try.prog) 54 4 (.bool false) 1 Try.underlying54 Binfo rfl .i64 .i64 n (by omega) (by omega) w
  have HST := Lib.hid hS
  have hgA : Gr w ((w.alloc (.cells #[.slice fa m fc, .slice (some ⟨gp, 0, none⟩) n pc] 91)).alloc (.cells #[.slice none 0 0, .slice none 0 0] 91)) none := ((Gr.refl _ _).alloc _).alloc _
  have hA0 := heap2_0 w (.cells #[.slice fa m fc, .slice (some ⟨gp, 0, none⟩) n pc] 91) (.cells #[.slice none 0 0, .slice none 0 0] 91)
  have hA1 := heap2_1 w (.cells #[.slice fa m fc, .slice (some ⟨gp, 0, none⟩) n pc] 91) (.cells #[.slice none 0 0, .slice none 0 0] 91)
  obtain ⟨wA, hwA⟩ : ∃ wA, wA = (w.alloc (.cells #[.slice fa m fc, .slice (some ⟨gp, 0, none⟩) n pc] 91)).alloc (.cells #[.slice none 0 0, .slice none 0 0] 91) := ⟨_, rfl⟩
  have hszA : wA.heap.size = w.heap.size + 1 + 1 := by rw [hwA]; simp
  clear hT hm hR hn hln eq hpa hy hnn hS hiL
  go_enter Try.func112, Try.ntmps112
  go_upto_region 1 with fail
  rw [← hwA] at hgA hA0 hA1 ⊢
  have HGA := Lib.hid hgA
  have HA0 := Lib.hid hA0
  have HA1 := Lib.hid hA1
  have HSZA := Lib.hid hszA
  replace c0 := hgA.cell c0 (by simp)
  replace c1 := hgA.cell c1 (by simp)
  replace c2 := hgA.cell c2 (by simp)
  replace c3 := hgA.cell c3 (by simp)
  replace c4 := hgA.cell c4 (by simp)
  clear hwA hgA hA0 hA1 hszA
  go_upto_region 2 with fail
  have hE := heap1_0 wA (.cells #[.int .i64 q.op, .int .i64 q.x, .int .i64 q.y, .int .i64 q.n, .slice an nn cn] 67)
  obtain ⟨wB, hwB⟩ : ∃ wB, wB = wA.alloc (.cells #[.int .i64 q.op, .int .i64 q.x, .int .i64 q.y, .int .i64 q.n, .slice an nn cn] 67) := ⟨_, rfl⟩
  have hgB : Gr wA wB none := by rw [hwB]; exact (Gr.refl _ _).alloc _
  have HSZB := Lib.hid (show wB.heap.size = wA.heap.size + 1 by rw [hwB]; simp)
  rw [← hwB] at hE ⊢
  have HEX := Lib.hid hE
  have HGB := Lib.hid (HGA.out.trans0 hgB)
  have HAB := Lib.hid hgB
  have a0 : wB.cell? ⟨w.heap.size, 0, none⟩ = some (.slice fa m fc) := hgB.cell (p := ⟨w.heap.size, 0, none⟩) (cell_of_row _ _ _ _ _ _ HA0.out) (by simp)
  have a1 : wB.cell? ⟨w.heap.size, 1, none⟩ = some (.slice (some ⟨gp, 0, none⟩) n pc) := hgB.cell (p := ⟨w.heap.size, 1, none⟩) (cell_of_row _ _ _ _ _ _ HA0.out) (by simp)
  clear hwB hE hgB c0 c1 c2 c3 c4
  go_wp2_with fail
  refine (l4Copy_any lo m n fa fc gp pc hh F P _ (HST.out.gr0 HGB.out) hm6 (by omega)).mono ?_
  rintro e w2 ⟨fo, fco, hs, go, pco, he, hSO, hg2⟩
  subst he
  have HSO := Lib.hid hSO
  have HG2 := Lib.hid hg2
  clear hSO hg2 a0 a1
  go_upto_region 3 with fail
  have hE := heap1_0 w2 (.cells #[.slice fo m fco, .slice (some ⟨go, 0, none⟩) n pco] 91)
  obtain ⟨wC, hwC⟩ : ∃ wC, wC = w2.alloc (.cells #[.slice fo m fco, .slice (some ⟨go, 0, none⟩) n pco] 91) := ⟨_, rfl⟩
  have hgC : Gr w2 wC none := by rw [hwC]; exact (Gr.refl _ _).alloc _
  have HSZC := Lib.hid (show wC.heap.size = w2.heap.size + 1 by rw [hwC]; simp)
  rw [← hwC] at hE ⊢
  have HES := Lib.hid hE
  have HGC := Lib.hid hgC
  clear hwC hE hgC
  go_upto_region 4 with fail
  have hRow := Row.e (Row.new wC n)
  obtain ⟨wD, hwD⟩ : ∃ wD, wD = wC.alloc (.cells (madeCells #[.bool false] n) 4) := ⟨_, rfl⟩
  have hgD : Gr wC wD none := by rw [hwD]; exact (Gr.refl _ _).alloc _
  have HSZD := Lib.hid (show wD.heap.size = wC.heap.size + 1 by rw [hwD]; simp)
  rw [← hwD] at hRow ⊢
  have HRV := Lib.hid hRow
  have HCD := Lib.hid hgD
  have HGD := Lib.hid (HGC.out.trans0 hgD)
  have HGW := Lib.hid (show Gr w wD none from HGB.out.trans0 (HG2.out.trans0 (HGC.out.trans0 hgD)))
  have HBD := Lib.hid (show Gr wB wD none from HG2.out.trans0 (HGC.out.trans0 hgD))
  have HSD := Lib.hid (HSO.out.gr0 (HGC.out.trans0 hgD))
  have x0 : wD.cell? ⟨wA.heap.size, 0, none⟩ = some (.int .i64 q.op) := HBD.out.cell (p := ⟨wA.heap.size, 0, none⟩) (cell_of_row _ _ _ _ _ _ HEX.out) (by simp)
  have x2 : wD.cell? ⟨wA.heap.size, 2, none⟩ = some (.int .i64 q.y) := HBD.out.cell (p := ⟨wA.heap.size, 2, none⟩) (cell_of_row _ _ _ _ _ _ HEX.out) (by simp)
  have a0 : wD.cell? ⟨w.heap.size, 0, none⟩ = some (.slice fa m fc) := (HAB.out.trans0 HBD.out).cell (p := ⟨w.heap.size, 0, none⟩) (cell_of_row _ _ _ _ _ _ HA0.out) (by simp)
  obtain ⟨gv, hgv⟩ : ∃ gv, wC.heap.size = gv := ⟨_, rfl⟩
  have HGV := Lib.hid hgv
  rw [hgv] at HRV ⊢
  obtain ⟨o, ho⟩ : ∃ o, q.op = o := ⟨_, rfl⟩
  rw [ho] at x0
  have HOP := Lib.hid ho
  clear hwD hRow hgD hmk hgv ho
  go_upto_block 0 with fail
  go_cut [11] (fun v wx => v = .slice (some ⟨gv, 0, none⟩) n n ∧ RowE wx gv n n (valE T L i F) ∧ Gr wD wx (some gv))
  case first =>
    have hvf := HRV.out.free
    by_cases h3 : o = 3
    · subst h3
      obtain ⟨j, hyj, hjm⟩ := HY.out (.inl HOP.out)
      rw [hyj] at x2
      have HYN := Lib.hid (show yN L i = j by unfold yN; rw [HPA.out, hyj]; rfl)
      have HCB := Lib.hid (show lnB L i = false ∧ cbB T L i = true by unfold cbB lnB; rw [HPA.out, HOP.out]; simp)
      clear hyj
      have hjh : j < hh.length := by rw [HST.out.1]; exact hjm
      have hSD := HST.out.gr0 HGW.out
      obtain ⟨bf, of, rfl, e0⟩ := hsE_cell hSD.2.1 hjh
      have hr := (hSD.2.2.1 j hjh).2
      obtain ⟨⟨g1, cc1⟩, hk2⟩ : ∃ x, hh[j] = x := ⟨_, rfl⟩
      rw [hk2] at e0 hr
      have HRJ := Lib.hid hr
      clear hr hSD hk2
      go_wp2_with fail
      refine (l4AddE_any gv g1 n n cc1 (fun _ => false) (F j) _ HRV.out HRJ.out (by omega)).mono ?_
      rintro e w3 ⟨rfl, hR3, hg3⟩
      have HR3 := Lib.hid hR3
      have HG3 := Lib.hid hg3
      clear hR3 hg3 e0 a0 x0 x2
      go_wp2_with fail
      go_meet
      exact ⟨rfl, HR3.out.congr fun k _ => by unfold valE; rw [HCB.out.1, HCB.out.2, HYN.out]; simp, HG3.out⟩
    · have e3 : (o == 3) = false := beq_eq_false_iff_ne.2 h3
      by_cases h45 : o = 4 ∨ o = 5
      · obtain ⟨j, hyj, hjm⟩ := HY.out (.inr (by rw [HOP.out]; exact h45))
        rw [hyj] at x2
        have HYN := Lib.hid (show yN L i = j by unfold yN; rw [HPA.out, hyj]; rfl)
        have hjT : j < T.length := by rw [HM.out]; exact hjm
        obtain ⟨t, ht⟩ : ∃ t, T[j] = t := ⟨_, rfl⟩
        obtain ⟨rb, hrb⟩ : ∃ rb, isRef t = rb := ⟨_, rfl⟩
        have HRB := Lib.hid hrb
        have HLB := Lib.hid (show lnB L i = true by unfold lnB; rw [HPA.out, HOP.out]; rcases h45 with h | h <;> simp [h])
        have HCB := Lib.hid (show cbB T L i = rb by
          unfold cbB
          rw [HLB.out, HPA.out, HOP.out, hyj, show ((j : Nat) : Int).toNat = j from rfl, show T.getD j 0 = t by simp [List.getD, hjT, ht], hrb, e3]
          simp)
        have ci := HRV.out.cell hi
        obtain ⟨w4, hw4⟩ : ∃ w4 : World, w4 = wD.setCell ⟨gv, i, none⟩ (.bool true) := ⟨_, rfl⟩
        have hg4 : Gr wD w4 (some gv) := by rw [hw4]; exact own_set _ _ _ _
        have HW4 := Lib.hid hw4
        have HR4 := Lib.hid (show RowE w4 gv n n (fun k => decide (k = i)) by rw [hw4]; exact (HRV.out.set i true).congr fun k _ => by by_cases e : k = i <;> simp [e])
        have HG4 := Lib.hid hg4
        have hgw4 : Gr w w4 none := HGW.out.trans hg4 (fun r e => .inr (by cases e; have := HGV.out; have := HSZC.out; have := HG2.out.size; have := HGB.out.size; omega))
        have HGW4 := Lib.hid hgw4
        obtain ⟨bt, ot, rfl, -, ct⟩ := (HT.out.gr0 hgw4).at hjT
        rw [ht] at ct
        have hgvn : w.heap.size ≠ gv ∧ wA.heap.size ≠ gv := by have := HGV.out; have := HSZC.out; have := HG2.out.size; have := HSZB.out; have := HSZA.out; omega
        have y0 := hg4.cell x0 (by simp; omega)
        have y2 := hg4.cell x2 (by simp; omega)
        have b0 := hg4.cell a0 (by simp; omega)
        have hjh : j < hh.length := by rw [HST.out.1]; exact hjm
        have hS4 := HST.out.gr0 hgw4
        obtain ⟨bf, of, rfl, e0⟩ := hsE_cell hS4.2.1 hjh
        have hr := (hS4.2.2.1 j hjh).2
        obtain ⟨⟨g1, cc1⟩, hk2⟩ : ∃ x, hh[j] = x := ⟨_, rfl⟩
        rw [hk2] at e0 hr
        have HRJ := Lib.hid hr
        clear hw4 hg4 hgw4 hr hS4 hk2 ht hrb hyj
        rcases h45 with h4 | h5
        case' inl =>
          subst h4
          go_upto_region 10 with fail
        case' inr =>
          subst h5
          go_upto_region 10 with fail
        all_goals
          rw [← HW4.out]
          clear x0 x2 a0
          go_wp2_with fail
          refine (specIsRef_any t _).mono ?_
          rw [HRB.out]
          rintro e w5 ⟨rfl, rfl⟩
          cases rb with
          | true =>
            go_wp2_with fail
            refine (l4AddE_any gv g1 n n cc1 (fun k => decide (k = i)) (F j) _ HR4.out HRJ.out (by omega)).mono ?_
            rintro e w3 ⟨rfl, hR3, hg3⟩
            have HR3 := Lib.hid hR3
            have HG3 := Lib.hid hg3
            clear hR3 hg3 e0 y0 y2 b0
            go_wp2_with fail
            go_meet
            exact ⟨rfl, HR3.out.congr fun k _ => by unfold valE; rw [HLB.out, HCB.out, HYN.out]; simp, HG4.out.trans HG3.out (fun r e => .inl e)⟩
          | false =>
            go_wp2_with fail
            go_meet
            exact ⟨rfl, HR4.out.congr fun k _ => by unfold valE; rw [HLB.out, HCB.out]; simp, HG4.out⟩
      · have e4 : (o == 4) = false := beq_eq_false_iff_ne.2 (fun h => h45 (.inl h))
        have e5 : (o == 5) = false := beq_eq_false_iff_ne.2 (fun h => h45 (.inr h))
        have HCB := Lib.hid (show lnB L i = false ∧ cbB T L i = false by unfold cbB lnB; rw [HPA.out, HOP.out, e4, e5, e3]; simp)
        clear h3 h45
        go_wp2_with fail
        go_meet
        exact ⟨rfl, HRV.out.congr fun k _ => by unfold valE; rw [HCB.out.1, HCB.out.2]; simp, Gr.refl _ _⟩
  case rest =>
    rename World => wE
    obtain ⟨rfl, hRV, hgE⟩ := hcut
    have hmk := fun w : World => run_make_row' (P := Try.prog) 54 4 (.bool false) 1 Try.underlying54 Binfo rfl .i64 .i64 n (by omega) (by omega) w
    obtain ⟨xb, hxb⟩ : ∃ xb, wA.heap.size = xb := ⟨_, rfl⟩
    obtain ⟨sv, hsv⟩ : ∃ sv, w2.heap.size = sv := ⟨_, rfl⟩
    obtain ⟨rb, hrb⟩ : ∃ rb, w.heap.size + 1 = rb := ⟨_, rfl⟩
    have HORD := Lib.hid (show w.heap.size + 1 = rb ∧ rb + 1 = xb ∧ xb + 1 = wB.heap.size ∧ wB.heap.size ≤ sv ∧ sv + 1 = gv ∧ gv < wE.heap.size by
      have := HGV.out; have := HSZC.out; have := HG2.out.size; have := HSZB.out; have := HSZA.out; have := hRV.lt; omega)
    have hor := HORD.out
    have HXE := Lib.hid (show wE.heap[xb]? = some (.cells #[.int .i64 q.op, .int .i64 q.x, .int .i64 q.y, .int .i64 q.n, .slice an nn cn] 67 (0, 0)) by
      rw [← hxb, hgE.block _ (by have := HBD.out.size; omega) (by simp; omega), HBD.out.block _ (by omega) (by simp)]; exact HEX.out)
    have HSE := Lib.hid (show wE.heap[sv]? = some (.cells #[.slice fo m fco, .slice (some ⟨go, 0, none⟩) n pco] 91 (0, 0)) by
      rw [← hsv, hgE.block _ (by have := HCD.out.size; have := HSZC.out; omega) (by simp; omega), HCD.out.block _ (by have := HSZC.out; omega) (by simp)]; exact HES.out)
    have HRE := Lib.hid (show wE.heap[rb]? = some (.cells #[.slice none 0 0, .slice none 0 0] 91 (0, 0)) by
      have h1 := HAB.out.trans0 HBD.out
      rw [← hrb, hgE.block _ (by have := h1.size; omega) (by simp; omega), h1.block _ (by omega) (by simp)]; exact HA1.out)
    have hfo : ∀ c, ob fo = some c → wB.heap.size ≤ c ∧ c < sv := fun c hc => by
      obtain ⟨h1, cs, h2⟩ := HSO.out.2.2.2.2.2.2.2 c hc
      exact ⟨h1, by rw [← hsv]; exact lt_of_block h2⟩
    have hgo : wB.heap.size ≤ go ∧ go < sv := ⟨HSO.out.2.2.2.1, by rw [← hsv]; exact HSO.out.2.2.2.2.1.lt⟩
    have hhs : ∀ x ∈ hs, wB.heap.size ≤ x.1 ∧ x.1 < sv := fun x hx => ⟨HSO.out.2.2.1.lo x hx, by rw [← hsv]; exact HSO.out.2.2.1.lt x hx⟩
    have HFO := Lib.hid hfo
    have HGO := Lib.hid hgo
    have HS0 := Lib.hid (show StE wE wB.heap.size m n fo hs go pco (fU T L i F 0) (pU T L i P 0) from (HSD.out.gr hgE (fun c hc e => by have := hfo c hc; simp at e; omega) (fun x hx e => by have := hhs x hx; simp at e; omega) (by simp; omega)).congr (fun v k _ _ => by unfold fU; simp) (fun k _ => by unfold pU; simp))
    have HGWE := Lib.hid (show Gr w wE none from HGW.out.trans hgE (fun r e => .inr (by cases e; omega)))
    have HRVE := Lib.hid hRV
    rw [hxb, hsv, hrb]
    clear hRV hgE hxb hsv hrb x0 x2 a0
    have HHS := Lib.hid (show ∀ x ∈ hs, x.1 ≠ sv ∧ x.1 ≠ gv from fun x hx => by have := hhs x hx; omega)
    clear hor hfo hgo hhs
    go_wp2_with fail
    go_loopw [12] (fun s wr => ∃ (u : Nat) (hs : List (Nat × Nat)), u ≤ m ∧ s = .int .i64 u ∧ StE wr wB.heap.size m n fo hs go pco (fU T L i F u) (pU T L i P u) ∧ (∀ x ∈ hs, x.1 ≠ sv ∧ x.1 ≠ gv) ∧ KeepB [rb, xb, sv, gv] wE wr ∧ Gr w wr none ∧ wE.heap.size ≤ wr.heap.size) (fun s _ => m - (intOf s).toNat)
    case atStart => exact ⟨0, hs, Nat.zero_le _, rfl, HS0.out, HHS.out, fun b _ => rfl, HGWE.out, Nat.le_refl _⟩
    case round =>
      obtain ⟨u, hs, hu, rfl, hS, hhs, hK, hg, hsz⟩ := hrel
      have HS := Lib.hid hS
      have HHS := Lib.hid hhs
      have HK := Lib.hid hK
      have HG := Lib.hid hg
      have hxw : wr.heap[xb]? = some (.cells #[.int .i64 q.op, .int .i64 q.x, .int .i64 q.y, .int .i64 q.n, .slice an nn cn] 67 (0, 0)) := by rw [hK xb (by simp)]; exact HXE.out
      have x0 : wr.cell? ⟨xb, 0, none⟩ = some (.int .i64 q.op) := cell_of_row _ _ _ _ _ _ hxw
      have x1 : wr.cell? ⟨xb, 1, none⟩ = some (.int .i64 q.x) := cell_of_row _ _ _ _ _ _ hxw
      have x2 : wr.cell? ⟨xb, 2, none⟩ = some (.int .i64 q.y) := cell_of_row _ _ _ _ _ _ hxw
      have x3 : wr.cell? ⟨xb, 3, none⟩ = some (.int .i64 q.n) := cell_of_row _ _ _ _ _ _ hxw
      have x4 : wr.cell? ⟨xb, 4, none⟩ = some (.slice an nn cn) := cell_of_row _ _ _ _ _ _ hxw
      have hsw : wr.heap[sv]? = some (.cells #[.slice fo m fco, .slice (some ⟨go, 0, none⟩) n pco] 91 (0, 0)) := by rw [hK sv (by simp)]; exact HSE.out
      have HSW := Lib.hid hsw
      have HXW := Lib.hid hxw
      clear hS hhs hK hg hxw hsw
      by_cases hlt : u < m
      · have huT : u < T.length := by rw [HM.out]; exact hlt
        obtain ⟨tb, htb⟩ : ∃ tb, takesB T q.op q.x q.y u = tb := ⟨_, rfl⟩
        have hte := take_eq (op := q.op) (x := q.x) (y := q.y) huT
        rw [htb] at hte
        obtain ⟨UU, hUU⟩ : ∃ UU, useK T[u] q.op q.x q.y u = UU := ⟨_, rfl⟩
        rw [hUU] at hte
        have hUSE := fun (wq : World) (h : InAt wq Any T at') => l3Use_any T at' ct q.op q.x q.y q.n (.slice an nn cn) u huT wq h (by rw [HM.out]; omega)
        rw [HM.out, hUU] at hUSE
        have HUSE := Lib.hid hUSE
        have HTB := Lib.hid (show tkL T L i u = tb by unfold tkL; rw [HPA.out]; exact htb)
        clear hUU htb hUSE
        go_wp2_with fail
        refine (HUSE.out _ (HT.out.gr0 HG.out)).mono ?_
        rintro e w3 ⟨rfl, hg3⟩
        have HS3 := Lib.hid (HS.out.gr0 hg3)
        have HG3 := Lib.hid (HG.out.trans0 hg3)
        have hor := HORD.out
        have HK3 := Lib.hid (show KeepB [rb, xb, sv, gv] wE w3 from HK.out.gr hg3 (fun b hb => ⟨by simp at hb; omega, by simp⟩))
        have hsz3 : wE.heap.size ≤ w3.heap.size := by have := hg3.size; omega
        have hs3 : w3.heap[sv]? = some (.cells #[.slice fo m fco, .slice (some ⟨go, 0, none⟩) n pco] 91 (0, 0)) := by rw [HK3.out sv (by simp)]; exact HSE.out
        have HS3B := Lib.hid hs3
        clear x0 x1 x2 x3 x4 hg3 hor
        cases tb with
        | false =>
          clear hs3
          go_wp2_with fail
          go_roundw
          case rel => exact ⟨u + 1, hs, by omega, by go_num, HS3.out.congr (fun v k _ _ => fU_same HTB.out) (fun k _ => pU_same HTB.out), HHS.out, HK3.out, HG3.out, hsz3⟩
          case measure => simp [intOf]; omega
        | true =>
          have huh : u < hs.length := by rw [HS3.out.1]; exact hlt
          obtain ⟨bf, of, rfl, e0⟩ := hsE_cell HS3.out.2.1 huh
          obtain ⟨cs, hcs⟩ := (HS3.out.2.2.2.2.2.2.2 bf rfl).2
          have hbl : bf < w3.heap.size := lt_of_block hcs
          have ef : ∀ j, w3.frozen? ⟨bf, j, none⟩ = false := fun j => by simp [World.frozen?, hcs]
          have e0A := fun A => ((Gr.refl w3 none).alloc A).cell e0 (by simp)
          have efA : ∀ A j, (w3.alloc A).frozen? ⟨bf, j, none⟩ = false := fun A j => by
            have : (w3.alloc A).heap[bf]? = some (.cells cs 54 (0, 0)) := by rw [((Gr.refl w3 none).alloc A).block bf hbl (by simp)]; exact hcs
            simp [World.frozen?, this]
          have s0 : w3.cell? ⟨sv, 0, none⟩ = some (.slice (some ⟨bf, of, none⟩) m fco) := cell_of_row _ _ _ _ _ _ hs3
          have s0A := fun A => ((Gr.refl w3 none).alloc A).cell s0 (by simp)
          have hfo := HFO.out bf rfl
          have hor := HORD.out
          have hgo := HGO.out
          have hR3 := Row.e (Row.new w3 n)
          have hgA3 : Gr w3 (w3.alloc (.cells (madeCells #[.bool false] n) 4)) none := (Gr.refl _ _).alloc _
          have HSP := Lib.hid ((HS3.out.gr0 hgA3).put hlt hR3 (by omega) (by omega) (fun x hx => by have := HS3.out.2.2.1.lt x hx; omega))
          have HKP := Lib.hid ((HK3.out.gr hgA3 (fun b hb => ⟨by simp at hb; omega, by simp⟩)).gr (own_set _ bf (of + u) (.slice (some ⟨w3.heap.size, 0, none⟩) n n)) (fun b hb => ⟨by have := hgA3.size; simp at hb; omega, by simp at hb; simp; omega⟩))
          have HGP := Lib.hid ((HG3.out.trans0 hgA3).setNew (p := ⟨bf, of + u, none⟩) (by show w.heap.size ≤ bf; omega) (.slice (some ⟨w3.heap.size, 0, none⟩) n n))
          have heq := World.setCell_alloc_past (w := w3) (.cells (madeCells #[.bool false] n) 4) bf (of + u) (.slice (some ⟨w3.heap.size, 0, none⟩) n n) hbl
          rw [heq] at HSP HKP HGP
          obtain ⟨ev, hev⟩ : ∃ ev, Value.slice (some ⟨(hs[u]).1, 0, none⟩) n (hs[u]).2 = ev := ⟨_, rfl⟩
          rw [hev] at e0
          simp only [hev] at e0A
          clear hs3 hcs hR3 hgA3 heq hev
          go_upto_region 16 with fail
          go_cut [12] (fun s wx => s = .int .i64 u ∧ StE wx wB.heap.size m n (some ⟨bf, of, none⟩) (hs.set u (w3.heap.size, n)) go pco (fun v k => if v = u then false else fU T L i F u v k) (pU T L i P u) ∧ KeepB [rb, xb, sv, gv] wE wx ∧ Gr w wx none ∧ w3.heap.size ≤ wx.heap.size)
          case first =>
            go_region
            all_goals
              go_wp2_with fail
              go_meet
              exact ⟨rfl, HSP.out.gr0 (Gr.refl _ none).drew, HKP.out, HGP.out.drew, by simp⟩
          case rest =>
          rename World => wx
          obtain ⟨rfl, hSx, hKx, hgx, hszx⟩ := hcut
          have HSX := Lib.hid hSx
          have HKX := Lib.hid hKx
          have HGX := Lib.hid hgx
          have hsx : wx.heap[sv]? = some (.cells #[.slice (some ⟨bf, of, none⟩) m fco, .slice (some ⟨go, 0, none⟩) n pco] 91 (0, 0)) := by rw [hKx sv (by simp)]; exact HSE.out
          have y0 : wx.cell? ⟨sv, 0, none⟩ = some (.slice (some ⟨bf, of, none⟩) m fco) := cell_of_row _ _ _ _ _ _ hsx
          have y1 : wx.cell? ⟨sv, 1, none⟩ = some (.slice (some ⟨go, 0, none⟩) n pco) := cell_of_row _ _ _ _ _ _ hsx
          clear hSx hKx hgx hsx e0 e0A ef efA s0 s0A
          go_wp2_with fail
          refine (l4Lose_any L (some ⟨b, po, none⟩) ca (u : Int) (.slice (some ⟨bf, of, none⟩) m fco) go pco n (pU T L i P u) _ (HR.out.gr HGX.out) HN.out (by omega) HSX.out.2.2.2.2.1 (fun c hc => by simp [ob] at hc; omega)).mono ?_
          rintro e w4 ⟨rfl, hP4, hg4⟩
          have HS4 := Lib.hid (HSX.out.putP hg4 hP4)
          have HK4 := Lib.hid (show KeepB [rb, xb, sv, gv] wE w4 from HKX.out.gr hg4 (fun b hb => ⟨by simp at hb; omega, by simp at hb; simp; omega⟩))
          have HG4 := Lib.hid (show Gr w w4 none from HGX.out.trans hg4 (fun r e => .inr (by cases e; omega)))
          have hsz4 : wE.heap.size ≤ w4.heap.size := by have := hg4.size; omega
          clear hP4 hg4 y0 y1
          go_wp2_with fail
          go_roundw
          case rel =>
            refine ⟨u + 1, hs.set u (w3.heap.size, n), by omega, by go_num, HS4.out.congr (fun v k _ _ => fU_step HTB.out) (fun k hk => pU_step HLN.out hk HTB.out), fun x hx => ?_, HK4.out, HG4.out, hsz4⟩
            rcases List.mem_or_eq_of_mem_set hx with hx | rfl
            · exact HHS.out x hx
            · exact ⟨by show w3.heap.size ≠ sv; omega, by show w3.heap.size ≠ gv; omega⟩
          case measure => simp [intOf]; omega
      · obtain rfl : u = m := by omega
        obtain ⟨sx, hsx⟩ : ∃ sx, setOf q.op q.x = sx := ⟨_, rfl⟩
        have HSX := Lib.hid hsx
        rw [hsx] at hst
        clear hsx hmk
        go_wp2_with fail
        refine (l3Set_any q.op q.x q.y q.n (.slice an nn cn) _).mono ?_
        rw [HSX.out]
        rintro e w3 ⟨rfl, hg3⟩
        have hor := HORD.out
        have HS3 := Lib.hid (HS.out.gr0 hg3)
        have HG3 := Lib.hid (HG.out.trans0 hg3)
        have HK3 := Lib.hid (show KeepB [rb, xb, sv, gv] wE w3 from HK.out.gr hg3 (fun b hb => ⟨by simp at hb; omega, by simp⟩))
        have hsz3 : wE.heap.size ≤ w3.heap.size := by have := hg3.size; omega
        clear x0 x1 x2 x3 x4 hg3
        have HQX := Lib.hid (show setOf (ptAt L i).op (ptAt L i).x = sx by rw [HPA.out]; exact HSX.out)
        by_cases h0 : 0 ≤ sx
        case' pos =>
          obtain ⟨sj, rfl⟩ := Int.eq_ofNat_of_zero_le h0
          have hsj : sj < u := by omega
          have hsl : sj < hs.length := by rw [HS3.out.1]; exact hsj
          obtain ⟨bf, of, rfl, e0⟩ := hsE_cell HS3.out.2.1 hsl
          obtain ⟨cs, hcs⟩ := (HS3.out.2.2.2.2.2.2.2 bf rfl).2
          have hbl : bf < w3.heap.size := lt_of_block hcs
          have ef : ∀ j, w3.frozen? ⟨bf, j, none⟩ = false := fun j => by simp [World.frozen?, hcs]
          have hs3 : w3.heap[sv]? = some (.cells #[.slice (some ⟨bf, of, none⟩) u fco, .slice (some ⟨go, 0, none⟩) n pco] 91 (0, 0)) := by rw [HK3.out sv (by simp)]; exact HSE.out
          have s0 : w3.cell? ⟨sv, 0, none⟩ = some (.slice (some ⟨bf, of, none⟩) u fco) := cell_of_row _ _ _ _ _ _ hs3
          have hfo := HFO.out bf rfl
          have hgo := HGO.out
          have hRV3 : RowE w3 gv n n (valE T L i F) := by
            obtain ⟨arr, h1, h2⟩ := HRVE.out
            exact ⟨arr, by rw [HK3.out gv (by simp)]; exact h1, h2⟩
          have HSP := Lib.hid (HS3.out.put hsj hRV3 (by omega) (by omega) (fun x hx => (HHS.out x hx).2))
          have HKP := Lib.hid (HK3.out.gr (own_set _ bf (of + sj) (.slice (some ⟨gv, 0, none⟩) n n)) (fun b hb => ⟨by simp at hb; omega, by simp at hb; simp; omega⟩))
          have HGP := Lib.hid (HG3.out.setNew (p := ⟨bf, of + sj, none⟩) (by show w.heap.size ≤ bf; omega) (.slice (some ⟨gv, 0, none⟩) n n))
          obtain ⟨ev, hev⟩ : ∃ ev, Value.slice (some ⟨(hs[sj]).1, 0, none⟩) n (hs[sj]).2 = ev := ⟨_, rfl⟩
          rw [hev] at e0
          have HSXJ := Lib.hid HQX.out
          clear hs3 hcs hev hRV3 h0
          go_upto_region 21 with fail
          obtain ⟨w4, hw4⟩ : ∃ w4 : World, w4 = w3.setCell ⟨bf, of + sj, none⟩ (.slice (some ⟨gv, 0, none⟩) n n) := ⟨_, rfl⟩
          have hsz4 : w4.heap.size = w3.heap.size := by rw [hw4]; simp
          rw [← hw4] at HSP HKP HGP ⊢
          have hs4 : w4.heap[sv]? = some (.cells #[.slice (some ⟨bf, of, none⟩) u fco, .slice (some ⟨go, 0, none⟩) n pco] 91 (0, 0)) := by rw [HKP.out sv (by simp)]; exact HSE.out
          have y0 : w4.cell? ⟨sv, 0, none⟩ = some (.slice (some ⟨bf, of, none⟩) u fco) := cell_of_row _ _ _ _ _ _ hs4
          have y1 : w4.cell? ⟨sv, 1, none⟩ = some (.slice (some ⟨go, 0, none⟩) n pco) := cell_of_row _ _ _ _ _ _ hs4
          clear hw4 hs4 e0 ef s0
          go_wp2_with fail
          refine (l4Lose_any L (some ⟨b, po, none⟩) ca (sj : Int) (.slice (some ⟨bf, of, none⟩) u fco) go pco n (pU T L i P u) _ (HR.out.gr HGP.out) HN.out (by omega) HSP.out.2.2.2.2.1 (fun c hc => by simp [ob] at hc; omega)).mono ?_
          rintro e w6 ⟨rfl, hP6, hg6⟩
          have HK6 := Lib.hid (show KeepB [rb, xb, sv, gv] wE w6 from HKP.out.gr hg6 (fun b hb => ⟨by simp at hb; omega, by simp at hb; simp; omega⟩))
          have HG6 := Lib.hid (show Gr w w6 none from HGP.out.trans hg6 (fun r e => .inr (by cases e; omega)))
          have hsz6 : wE.heap.size ≤ w6.heap.size := by have := hg6.size; omega
          obtain ⟨hs6, hhs6⟩ : ∃ hs6, hs.set sj (gv, n) = hs6 := ⟨_, rfl⟩
          have HS6 := Lib.hid (show StE w6 wB.heap.size u n (some ⟨bf, of, none⟩) hs6 go pco (aftF T L i F) (fun k => P k && !lostB T L i k) by
            rw [← hhs6]
            exact (HSP.out.putP hg6 hP6).congr (fun v k hv _ => aftF_pos HSXJ.out hv) (fun k hk => aftP_pos HSXJ.out HM.out HLN.out hk))
          obtain ⟨fo, hfoe⟩ : ∃ fo : Option Addr, some (⟨bf, of, none⟩ : Addr) = fo := ⟨_, rfl⟩
          rw [hfoe] at HS6 HSE HFO ⊢
          clear hP6 hg6 y0 y1 hhs6 hfoe hfo
          go_upto_region 22 with fail
        case' neg =>
          have hd0 : decide (0 ≤ sx) = false := decide_eq_false h0
          obtain ⟨w6, hw6⟩ : ∃ w6, w6 = w3 := ⟨_, rfl⟩
          obtain ⟨hs6, hhs6⟩ : ∃ hs6, hs = hs6 := ⟨_, rfl⟩
          have HS6 := Lib.hid (show StE w6 wB.heap.size u n fo hs6 go pco (aftF T L i F) (fun k => P k && !lostB T L i k) by
            rw [hw6, ← hhs6]
            exact HS3.out.congr (fun v k hv _ => aftF_neg (by rw [HQX.out]; omega) hv) (fun k _ => aftP_neg (by rw [HQX.out]; omega) HM.out))
          have HK6 := Lib.hid (show KeepB [rb, xb, sv, gv] wE w6 by rw [hw6]; exact HK3.out)
          have HG6 := Lib.hid (show Gr w w6 none by rw [hw6]; exact HG3.out)
          have hsz6 : wE.heap.size ≤ w6.heap.size := by rw [hw6]; exact hsz3
          go_upto_region 22 with fail
          rw [← hw6]
          clear hw6 hhs6
        all_goals
          have hxw : w6.heap[xb]? = some (.cells #[.int .i64 q.op, .int .i64 q.x, .int .i64 q.y, .int .i64 q.n, .slice an nn cn] 67 (0, 0)) := by rw [HK6.out xb (by simp)]; exact HXE.out
          have x0 : w6.cell? ⟨xb, 0, none⟩ = some (.int .i64 o) := by rw [← HOP.out]; exact cell_of_row _ _ _ _ _ _ hxw
          have hsw : w6.heap[sv]? = some (.cells #[.slice fo u fco, .slice (some ⟨go, 0, none⟩) n pco] 91 (0, 0)) := by rw [HK6.out sv (by simp)]; exact HSE.out
          have s0 : w6.cell? ⟨sv, 0, none⟩ = some (.slice fo u fco) := cell_of_row _ _ _ _ _ _ hsw
          have s1 : w6.cell? ⟨sv, 1, none⟩ = some (.slice (some ⟨go, 0, none⟩) n pco) := cell_of_row _ _ _ _ _ _ hsw
          have pi := HS6.out.2.2.2.2.1.cell hi
          have pf := HS6.out.2.2.2.2.1.free i
          obtain ⟨zz, hzz⟩ : ∃ zz, (P i && !lostB T L i i) = zz := ⟨_, rfl⟩
          rw [hzz] at pi
          have HRB6 := Lib.hid (show w6.heap[rb]? = some (.cells #[.slice none 0 0, .slice none 0 0] 91 (0, 0)) by rw [HK6.out rb (by simp)]; exact HRE.out)
          have HSW6 := Lib.hid hsw
          have hgo := HGO.out
          have HFO6 := Lib.hid HFO.out
          have HLB : lnB L i = (o == 4 || o == 5) := by unfold lnB; rw [HPA.out, HOP.out]
          have HLBH := Lib.hid HLB
          clear hxw hsw hzz HLB
          by_cases h45 : o = 4 ∨ o = 5
          · have HLT := Lib.hid (show lnB L i = true by rw [HLBH.out]; rcases h45 with h | h <;> simp [h])
            obtain ⟨w7, hw7⟩ : ∃ w7 : World, w7 = w6.setCell ⟨go, i, none⟩ (.bool true) := ⟨_, rfl⟩
            have hg67 : Gr w6 w7 (some go) := by rw [hw7]; exact own_set _ _ _ _
            have HS7 := Lib.hid (show StE w7 wB.heap.size u n fo hs6 go pco (aftF T L i F) (aftP T L i P) from HS6.out.putP hg67 (by
              rw [hw7]
              exact (HS6.out.2.2.2.2.1.set i true).congr fun k _ => by
                unfold aftP
                rw [HLT.out]
                by_cases e : k = i <;> simp [e]))
            have HW7 := Lib.hid hw7
            have hrb7 : w7.heap[rb]? = some (.cells #[.slice none 0 0, .slice none 0 0] 91 (0, 0)) := by rw [hg67.block _ (by omega) (by simp; omega)]; exact HRB6.out
            have hs7 : w7.heap[sv]? = some (.cells #[.slice fo u fco, .slice (some ⟨go, 0, none⟩) n pco] 91 (0, 0)) := by rw [hg67.block _ (by omega) (by simp; omega)]; exact HSW6.out
            have z0 : w7.cell? ⟨sv, 0, none⟩ = some (.slice fo u fco) := cell_of_row _ _ _ _ _ _ hs7
            have z1 : w7.cell? ⟨sv, 1, none⟩ = some (.slice (some ⟨go, 0, none⟩) n pco) := cell_of_row _ _ _ _ _ _ hs7
            have r0 : w7.cell? ⟨rb, 0, none⟩ = some (.slice none 0 0) := cell_of_row _ _ _ _ _ _ hrb7
            have r1 : w7.cell? ⟨rb, 1, none⟩ = some (.slice none 0 0) := cell_of_row _ _ _ _ _ _ hrb7
            have rf : ∀ j, w7.frozen? ⟨rb, j, none⟩ = false := fun j => by simp [World.frozen?, hrb7]
            have HRB7 := Lib.hid hrb7
            have HG7 := Lib.hid (show Gr w w7 none by rw [hw7]; exact HG6.out.setNew (by show w.heap.size ≤ go; omega) _)
            clear hw7 hg67 hrb7 hs7
            rcases h45 with h4 | h5
            case' inl => subst h4; go_upto_region 24 with fail
            case' inr => subst h5; go_upto_region 24 with fail
            all_goals
              rw [← HW7.out]
              clear x0 s0 s1 pi pf
              go_wp2_with fail
              obtain ⟨wF, hwF⟩ : ∃ wF, wF = putSt w7 rb (.slice fo u fco) (.slice (some ⟨go, 0, none⟩) n pco) := ⟨_, rfl⟩
              have hF := hwF.symm
              unfold putSt at hF
              rw [hF]
              have hFB : wF.heap[rb]? = some (.cells #[.slice fo u fco, .slice (some ⟨go, 0, none⟩) n pco] 91 (0, 0)) := by rw [hwF]; exact putSt_at HRB7.out _ _
              have hgF : Gr w7 wF (some rb) := by rw [hwF]; exact putSt_gr _ _ _ _
              have k0 : wF.cell? ⟨rb, 0, none⟩ = some (.slice fo u fco) := cell_of_row _ _ _ _ _ _ hFB
              have k1 : wF.cell? ⟨rb, 1, none⟩ = some (.slice (some ⟨go, 0, none⟩) n pco) := cell_of_row _ _ _ _ _ _ hFB
              have hor := HORD.out
              have hSF := HS7.out.gr hgF (fun c hc e => by have := HFO6.out c hc; simp at e; omega) (fun x hx e => by have := HS7.out.2.2.1.lo x hx; simp at e; omega) (by simp; omega)
              refine bodyPost_ret (v := .agg #[.slice fo u fco, .slice (some ⟨go, 0, none⟩) n pco]) ?_ rfl ⟨fo, fco, hs6, go, pco, rfl, ⟨hSF.1, hSF.2.1, fun j hj => ⟨by have := (hSF.2.2.1 j hj).1; omega, (hSF.2.2.1 j hj).2⟩, by omega, hSF.2.2.2.2.1, hSF.2.2.2.2.2.1, hSF.2.2.2.2.2.2.1, fun c hc => ⟨by have := (HFO6.out c hc).1; omega, (hSF.2.2.2.2.2.2.2 c hc).2⟩⟩, HG7.out.trans hgF (fun r e => .inr (by cases e; omega))⟩
              simp [results, Try.results112, go_sem, k0, k1]
          · have HLF := Lib.hid (show lnB L i = false by rw [HLBH.out]; simp; omega)
            have e4 : (o == 4) = false := beq_eq_false_iff_ne.2 (fun h => h45 (.inl h))
            have e5 : (o == 5) = false := beq_eq_false_iff_ne.2 (fun h => h45 (.inr h))
            have HS7 := Lib.hid (show StE w6 wB.heap.size u n fo hs6 go pco (aftF T L i F) (aftP T L i P) from HS6.out.congr (fun _ _ _ _ => rfl) (fun k _ => by unfold aftP; rw [HLF.out, Bool.false_and, Bool.false_or]))
            have hrb7 := HRB6.out
            have r0 : w6.cell? ⟨rb, 0, none⟩ = some (.slice none 0 0) := cell_of_row _ _ _ _ _ _ hrb7
            have r1 : w6.cell? ⟨rb, 1, none⟩ = some (.slice none 0 0) := cell_of_row _ _ _ _ _ _ hrb7
            have rf : ∀ j, w6.frozen? ⟨rb, j, none⟩ = false := fun j => by simp [World.frozen?, hrb7]
            clear h45 hrb7 pi pf
            go_wp2_with fail
            obtain ⟨wF, hwF⟩ : ∃ wF, wF = putSt w6 rb (.slice fo u fco) (.slice (some ⟨go, 0, none⟩) n pco) := ⟨_, rfl⟩
            have hF := hwF.symm
            unfold putSt at hF
            rw [hF]
            have hFB : wF.heap[rb]? = some (.cells #[.slice fo u fco, .slice (some ⟨go, 0, none⟩) n pco] 91 (0, 0)) := by rw [hwF]; exact putSt_at HRB6.out _ _
            have hgF : Gr w6 wF (some rb) := by rw [hwF]; exact putSt_gr _ _ _ _
            have k0 : wF.cell? ⟨rb, 0, none⟩ = some (.slice fo u fco) := cell_of_row _ _ _ _ _ _ hFB
            have k1 : wF.cell? ⟨rb, 1, none⟩ = some (.slice (some ⟨go, 0, none⟩) n pco) := cell_of_row _ _ _ _ _ _ hFB
            have hor := HORD.out
            have hSF := HS7.out.gr hgF (fun c hc e => by have := HFO6.out c hc; simp at e; omega) (fun x hx e => by have := HS7.out.2.2.1.lo x hx; simp at e; omega) (by simp; omega)
            refine bodyPost_ret (v := .agg #[.slice fo u fco, .slice (some ⟨go, 0, none⟩) n pco]) ?_ rfl ⟨fo, fco, hs6, go, pco, rfl, ⟨hSF.1, hSF.2.1, fun j hj => ⟨by have := (hSF.2.2.1 j hj).1; omega, (hSF.2.2.1 j hj).2⟩, by omega, hSF.2.2.2.2.1, hSF.2.2.2.2.2.1, hSF.2.2.2.2.2.2.1, fun c hc => ⟨by have := (HFO6.out c hc).1; omega, (hSF.2.2.2.2.2.2.2 c hc).2⟩⟩, HG6.out.trans hgF (fun r e => .inr (by cases e; omega))⟩
            simp [results, Try.results112, go_sem, k0, k1]
end Go.Proofs.Ytadlnjglpigjmaa
