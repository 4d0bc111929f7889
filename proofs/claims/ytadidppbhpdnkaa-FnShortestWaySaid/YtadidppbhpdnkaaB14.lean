/- The walk of a drawn program's mutation, weakly: some program in new memory. -/
import Derived.Test.YtadidppbhpdnkaaB13

import Derived.Deep.RegionLaw

namespace Go.Proofs.Ytadidppbhpdnkaa

open Go.RowKit

theorem mut_ret {R : Ending → World → Prop} {tmps : Array Value} {u : World} {b : Nat} {x0 x1 : Value} (hz : Zp u b x0 x1) {v0 v1 : Value} (ht : tmps.getD 4 undef = .pointer (some ⟨b, 0, none⟩)) (h : R (.returned (.agg #[v0, v1])) (put2 u b v0 v1)) :
    bodyPost Try.prog Try.f79 R .ret { tmps := tmps, defers := [] } (put2 u b v0 v1) := by
  obtain ⟨c0, c1⟩ := hz.put2 v0 v1
  generalize put2 u b v0 v1 = W at *
  have ht' : tmps[4]?.getD undef = .pointer (some ⟨b, 0, none⟩) := by simpa using ht
  refine bodyPost_ret (v := .agg #[v0, v1]) ?_ rfl h
  simp [results, Try.results79, go_sem, ht', c0, c1]
/-- A list of the call's own has room for its statements. -/
theorem Sts.cap {w : World} {base : Nat} {ao : Option Addr} {cap : Nat} {l : List St} (h : Sts w base ao cap l) : l.length ≤ cap := by
  obtain ⟨rows, hl, ⟨-, h1 | ⟨g, c, cur, h2, -, -, h3, -⟩⟩, -⟩ := h
  · omega
  · cases h2; exact h3
/-- A drawn program whose body's slice has room for its statements. -/
def DrawC (rb P c tm cm : Nat) (w : World) (e : Ending) (w' : World) : Prop := ∃ (p : Pr) (at' ab : Option Addr) (ct cb : Nat),
  e = .returned (.agg #[.slice at' p.types.length ct, .slice ab p.body.length cb]) ∧ InAt w' (New w.heap.size) p.types at' ∧ SlAt w' (New w.heap.size) p.body ab ∧ p.types.length ≤ tm ∧ St.count p.body ≤ cm ∧ Gr w w' (some rb) ∧ Rd w' rb (P + c) ∧ p.body.length ≤ cb
/-- A mutated program, at the end: what is handed back. -/
theorem mut_end {rb P c tm cm : Nat} {w W : World} {p' : Pr} {at9 ab9 : Option Addr} {ct9 cb9 : Nat} {v0 v1 : Value} (hrb : rb < w.heap.size) (hL : Lst W (w.heap.size + 2) (w.heap.size + 2) p'.types at9 p'.types.length ct9) {mid : Nat} (hmid : w.heap.size + 2 ≤ mid) (hS : Sts W mid ab9 cb9 p'.body)
    (hG : Gr w W (some rb)) (hR : Rd W rb (P + c)) (ht : p'.types.length ≤ tm) (hc : St.count p'.body ≤ cm) (e0 : v0 = .slice at9 p'.types.length ct9) (e1 : v1 = .slice ab9 p'.body.length cb9) : DrawC rb P c tm cm w (.returned (.agg #[v0, v1])) (put2 W (w.heap.size + 1) v0 v1) := by
  subst e0 e1
  exact ⟨p', at9, ab9, ct9, cb9, rfl, (InAt.put2 hL.at (by omega)).mono (fun b _ hb => by unfold New at *; omega) (fun _ _ _ _ h => h), (SlAt.put2 hS.at (by omega)).sub fun b _ hb => by unfold New at *; omega, ht, hc, hG.trans (put2_own _ _ _ _) (fun r e => .inr (by cases e; omega)), hR.far (put2_own _ _ _ _) (fun r e => by cases e; omega), hS.cap⟩
/-- append of statements as a step of a region. -/
theorem step_app_st (w : World) {ops : Array Oper} {o : Oper} {a : Act} {K : Act → World → Prop} {Q : Exit → Act → World → Prop} {E : Prop} (hgd : o.guard = none) (x y : Operand)
    (ho : o.op = .call { callee := .builtin .append, args := #[x, y], argTypes := #[24, 24] })
    (base g cap n m : Nat) (L M : List St) (hn : L.length = n) (hown : Sts w base (some ⟨g, 0, none⟩) cap L) (hm : M.length = m) (rM : List (List Value)) (hrl : rM.length = M.length)
    (hrM : ∀ i (h : i < M.length), StRow w (Inn base (some ⟨g, 0, none⟩)) M[i] (rM[i]'(by omega))) (ad : Addr) (c : Nat) (hb : ∀ j u, rM.flatten[j]? = some u → w.cell? (ad.add j) = some u) (hsum : n + m ≤ 100000) (hbase : base ≤ w.heap.size) (hfit : m = 0 → n ≤ cap)
    (hx : a.eval x = .slice (some ⟨g, 0, none⟩) n cap) (hy : a.eval y = .slice (some ad) m c)
    (h : ∀ (g' cap' : Nat) (w' : World), Sts w' base (some ⟨g', 0, none⟩) cap' (L ++ M) → Gr w w' (some g) → K (a.put o.dst (.slice (some ⟨g', 0, none⟩) (n + m) cap')) w') : if Region.wanted o (yielded ops a.tmps) = true then Oper.wp Try.prog o a w K Q else E := by
  obtain ⟨g', cap', w', hrun, h1, h2⟩ := run_app_sts w o.type base g cap n m L M hn hown hm rM hrl hrM ad c hb hsum hbase hfit
  exact step_run hgd x y _ ho _ _ hx hy _ _ hrun (h g' cap' w' h1 h2)
/-- What the doubling loop holds. -/
def Mu (w wr : World) (rb Q bo mid : Nat) (types : List Int) (a1 : Option Addr) (c1 : Nat) (B : List St) (gB cB m : Nat) : Prop :=
  B.length = m ∧ wr.heap[bo]? = some (.cells #[.slice a1 types.length c1, .slice (some ⟨gB, 0, none⟩) m cB] 26 (0, 0)) ∧ Sts wr mid (some ⟨gB, 0, none⟩) cB B ∧
  Lst wr (w.heap.size + 2) (w.heap.size + 2) types a1 types.length c1 ∧ Zp wr (w.heap.size + 1) (.slice none 0 0) (.slice none 0 0) ∧ Gr w wr (some rb) ∧ Rd wr rb Q
theorem Mu.step {w wr w6 : World} {rb Q bo mid : Nat} {types : List Int} {a1 : Option Addr} {c1 : Nat} {B : List St} {gB cB m g6 cap6 : Nat} {s0 : St} {cs : Array Value} (h : Mu w wr rb Q bo mid types a1 c1 B gB cB m)
    (hS : Sts w6 mid (some ⟨g6, 0, none⟩) cap6 (B ++ [s0])) (hg : Gr (wr.drew.alloc (.cells cs 96)) w6 (some gB)) (hrb : rb < w.heap.size) (hm : w.heap.size + 2 ≤ mid) (ha : ∀ r, ob a1 = some r → r < mid ∧ r < bo) (hbw : bo < wr.heap.size) (hbm : w.heap.size + 2 ≤ bo) :
    (w6.cell? ⟨bo, 0, none⟩ = some (.slice a1 types.length c1) ∧ w6.cell? ⟨bo, 1, none⟩ = some (.slice (some ⟨gB, 0, none⟩) m cB) ∧ w6.frozen? ⟨bo, 1, none⟩ = false) ∧ Mu w (w6.setCell ⟨bo, 1, none⟩ (.slice (some ⟨g6, 0, none⟩) (m + 1) cap6)) rb Q bo mid types a1 c1 (B ++ [s0]) g6 cap6 (m + 1) := by
  obtain ⟨hl, hb, hs, hL, hz, hG, hR⟩ := h
  have hga : Gr wr (wr.drew.alloc (.cells cs 96)) none := (Gr.refl wr none).drew.alloc _
  have hgb := (hs.own gB rfl)
  have hne : gB ≠ bo := by
    intro e
    obtain ⟨rows, hl', ho, _⟩ := hs
    rcases ho.2 with ⟨hv, _⟩ | ⟨g', cap', cur, hv, _, hc, _⟩
    · cases hv
    · simp only [Value.slice.injEq, Option.some.injEq, Addr.mk.injEq] at hv
      rw [← hv.1.1, e] at hc
      rw [hc] at hb
      simp at hb
  have hb6 : w6.heap[bo]? = some (.cells #[.slice a1 types.length c1, .slice (some ⟨gB, 0, none⟩) m cB] 26 (0, 0)) := (hg.block bo (by simp; omega) (by simp; omega)).trans ((hga.block bo hbw (by simp)).trans hb)
  have hW : Gr w6 (w6.setCell ⟨bo, 1, none⟩ (.slice (some ⟨g6, 0, none⟩) (m + 1) cap6)) (some bo) := own_set _ _ _ _
  refine ⟨⟨cell_of_row _ _ _ _ _ _ hb6, cell_of_row _ _ _ _ _ _ hb6, frz_new hb6 _⟩, by simp [hl], ?_, hS.offB hb6 hW, ((hL.gr hga).off hg (fun r e => by cases e; exact fun h => by have := (ha _ h).1; omega)).off hW (fun r e => by cases e; exact fun h => by have := (ha _ h).2; omega), ((hz.gr hga (by simp)).gr hg (by simp; omega)).gr hW (by simp; omega), ((hG.drew.alloc _).trans hg (fun r e => .inr (by cases e; omega))).setNew (by show w.heap.size ≤ bo; omega) _, ((hR.gr0 hga).far hg (fun r e => by cases e; omega)).far hW (fun r e => by cases e; omega)⟩
  exact row_set _ hb6
set_option maxRecDepth 100000 in
set_option maxHeartbeats 16000000 in
theorem l1Mutate_cap (rb P : Nat) (p : Pr) (at' ab : Option Addr) (ct cb : Nat) (w : World) (hR : Rd w rb P) (hP : P ≤ 9000) (hT : InAt w Any p.types at') (hB : SlAt w Any p.body ab) (hs : p.types.length ≤ 6) (hc : St.count p.body ≤ 105) :
    Calls Try.prog 79 #[.pointer (some ⟨rb, 0, none⟩), .agg #[.slice at' p.types.length ct, .slice ab p.body.length cb]] w (DrawC rb P 3 7 4000 w) := by
  have hrb := hR.lt
  have hg0 : ∀ o o', Gr w ((w.alloc o).alloc o') none := fun o o' => ((Gr.refl _ _).alloc _).alloc _
  have hZ0 : Zp ((w.alloc (.cells #[.slice at' p.types.length ct, .slice ab p.body.length cb] 26)).alloc (.cells #[.slice none 0 0, .slice none 0 0] 26)) (w.heap.size + 1) (.slice none 0 0) (.slice none 0 0) :=
    ⟨cell_of_row _ _ _ _ _ _ (heap2_1 _ _ _), cell_of_row _ _ _ _ _ _ (heap2_1 _ _ _), frz_new (heap2_1 _ _ _)⟩
  go_enter Try.func79, Try.ntmps79
  go_wp2_with fail
  refine (copyOf_any p at' ab ct cb _ (hT.gr0 (hg0 _ _)) (hB.gr0 (hg0 _ _)) (by omega) (by omega)).mono ?_
  rintro e w1 ⟨a1, b1, c1, d1, rfl, hL1, hg1, mid, hmid, hS1, hdj⟩
  have hsz : ((w.alloc (.cells #[.slice at' p.types.length ct, .slice ab p.body.length cb] 26)).alloc (.cells #[.slice none 0 0, .slice none 0 0] 26)).heap.size = w.heap.size + 2 := by simp
  rw [hsz] at hL1 hmid
  have hZ1 := hZ0.gr hg1 (by simp)
  have hR1 := (hR.gr0 (hg0 _ _)).gr0 hg1
  have hG1 := (hg0 _ _).trans0 hg1
  have hsz1 : w.heap.size + 2 ≤ w1.heap.size := by have := hg1.size; rw [hsz] at this; exact this
  go_upto_region 2 with fail
  obtain ⟨wA, hwA⟩ : ∃ wA : World, wA = w1.alloc (.cells #[.slice a1 p.types.length c1, .slice b1 p.body.length d1] 26) := ⟨_, rfl⟩
  have hgA : Gr w1 wA none := by rw [hwA]; exact (Gr.refl _ _).alloc _
  have hOA : Zp wA w1.heap.size (.slice a1 p.types.length c1) (.slice b1 p.body.length d1) := by rw [hwA]; exact Zp.new _ _ _ _
  rw [← hwA]
  have hlc := length_count p.body
  have HDJ := Lib.hid hdj
  have HA1 := Lib.hid (show ∀ g, ob a1 = some g → w.heap.size + 2 ≤ g ∧ g < w1.heap.size from fun g h => hL1.own g h)
  have hmw1 : w.heap.size + 2 ≤ w1.heap.size := hsz1
  have HB1 := Lib.hid (show ∀ g, ob b1 = some g → g < w1.heap.size from fun g h => (hS1.own g h).2)
  have HLA := Lib.hid (hL1.gr hgA)
  have HSA := Lib.hid (hS1.gr0 hgA)
  have HGA := Lib.hid ((hG1.trans0 hgA).weaken (row := some rb))
  have hRA := hR1.gr0 hgA
  have hZA := hZ1.gr hgA (by simp)
  have hszA : w1.heap.size < wA.heap.size := hOA.lt
  have HZA := Lib.hid hZA
  have HOA := Lib.hid hOA
  have HBA := Lib.hid (show wA.heap[w1.heap.size]? = some (.cells #[.slice a1 p.types.length c1, .slice b1 p.body.length d1] 26 (0, 0)) by rw [hwA]; exact heap1_0 _ _)
  clear hL1 hS1 hZ1 hR1 hG1 hg1 hZ0 hT hB hR hg0 hsz hgA hwA hZA hOA hdj
  by_cases hlen : p.body.length = 0
  · have HLEN := Lib.hid hlen
    obtain ⟨z0, z1, zf⟩ := HZA.out
    obtain ⟨p0, p1, pf⟩ := HOA.out
    rw [hlen] at p1
    go_wp2_with fail
    (try simp only [Exit.inBlock, Exit.then])
    refine mut_ret (b := w.heap.size + 1) HZA.out rfl ?_
    exact mut_end hrb HLA.out hmid HSA.out HGA.out (hRA.mono (by omega)) (by omega) (by omega) rfl (by rw [HLEN.out])
  · obtain ⟨g, rfl⟩ := HSA.out.addr (by omega)
    have hgb := (HSA.out.own g rfl)
    have hgw1 : g < w1.heap.size := HB1.out g rfl
    have HNE := Lib.hid (show ob a1 ≠ some g from fun e => by have := HDJ.out g e; have := hgb.1; omega)
    have hlen' : ((p.body.length : Int) == 0) = false := beq_eq_false_iff_ne.2 (by omega)
    obtain ⟨p0, p1, pf⟩ := HOA.out
    go_wp2_with fail
    refine (pick_any rb P p.body.length _ hRA (by omega) (by omega) (by omega)).mono ?_
    rintro e w2 ⟨v1, rfl, hv1, hv1', hg2, hr2⟩
    have hvl := hv1' (by omega)
    obtain ⟨k, rfl⟩ : ∃ k : Nat, v1 = k := ⟨v1.toNat, by omega⟩
    have hk : k < p.body.length := by omega
    have HL2 := Lib.hid (HLA.out.far hg2 (fun r e => by cases e; omega))
    have HS2 := Lib.hid (HSA.out.gr hg2 (fun r e => by cases e; omega))
    have HG2 := Lib.hid (HGA.out.trans hg2 (fun r e => .inl e))
    have HZ2 := Lib.hid (HZA.out.gr hg2 (by simp; omega))
    have HO2 := Lib.hid (HOA.out.gr hg2 (by simp; omega))
    have hs2 : wA.heap.size ≤ w2.heap.size := hg2.size
    have hg2k := Lib.hid hg2
    clear HLA HSA HGA HZA HOA hRA hg2 hv1' hvl hv1 p0 p1 pf
    go_wp2_with fail
    refine (pick_any rb (P + 1) 30 _ hr2 (by omega) (by omega) (by omega)).mono ?_
    rintro e w3 ⟨v2, rfl, hv2, hv2', hg3, hr3⟩
    have hb2 : v2 < 30 := hv2' (by omega)
    have HL3 := Lib.hid (HL2.out.far hg3 (fun r e => by cases e; omega))
    have HS3 := Lib.hid (HS2.out.gr hg3 (fun r e => by cases e; omega))
    have HG3 := Lib.hid (HG2.out.trans hg3 (fun r e => .inl e))
    have HZ3 := Lib.hid (HZ2.out.gr hg3 (by simp; omega))
    have HO3 := Lib.hid (HO2.out.gr hg3 (by simp; omega))
    have HB3 := Lib.hid ((hg3.block _ (by omega) (by simp; omega)).trans ((hg2k.out.block _ (by omega) (by simp; omega)).trans HBA.out))
    have hs3 : w2.heap.size ≤ w3.heap.size := hg3.size
    clear HL2 HS2 HG2 HZ2 HO2 hg3 hr2 hv2'
    have hlt3 : rb < w3.heap.size := hr3.lt
    have hcases : v2 = 0 ∨ v2 = 1 ∨ v2 = 2 ∨ v2 = 3 ∨ v2 = 4 ∨ v2 = 5 ∨ v2 = 6 ∨ 7 ≤ v2 := by omega
    clear hv2 hb2
    rcases hcases with rfl | rfl | rfl | rfl | rfl | rfl | rfl | h7
    · go_upto_region 7 with fail
      obtain ⟨o0, o1, of⟩ := HO3.out
      refine wp_region_held_drew (S := fun w' => Gr w w' (some rb) ∧ w'.cell? ⟨w1.heap.size, 1, none⟩ = some (.slice (some ⟨g, 0, none⟩) p.body.length d1)) (by kernel_rfl) (⟨HG3.out.drew, o1⟩) (fun hHeld => ?_)
      refine wpAnyH_take (i := 0) (v := ?_) rfl (by kernel_rfl) (by kernel_rfl) (by kernel_rfl) (fun _ _ _ h => h) (Or.inl ⟨by rfl, ?_⟩) hHeld ?_
      rotate_left
      focus (intro wq hq; clear hq; go_simp; try with_reducible rfl)
      simp only [Act.put, List.getElem_toArray, List.getElem_cons_zero, List.setIfInBounds_toArray, List.set_cons_zero, List.set_cons_succ]
      refine wpAnyH_take (i := 1) (v := ?_) rfl (by kernel_rfl) (by kernel_rfl) (by kernel_rfl) (fun _ _ _ h => h) (Or.inl ⟨by rfl, ?_⟩) hHeld ?_
      rotate_left
      focus (intro wq hq; have k0 := hq.2; go_simp; try with_reducible rfl)
      simp only [Act.put, List.getElem_toArray, List.getElem_cons_succ, List.getElem_cons_zero, List.setIfInBounds_toArray, List.set_cons_zero, List.set_cons_succ]
      refine wpAnyH_take (i := 2) (v := ?_) rfl (by kernel_rfl) (by kernel_rfl) (by kernel_rfl) (fun _ _ _ h => h) (Or.inl ⟨by rfl, ?_⟩) hHeld ?_
      rotate_left
      focus (intro wq hq; clear hq; go_simp; try with_reducible rfl)
      simp only [Act.put, List.getElem_toArray, List.getElem_cons_succ, List.getElem_cons_zero, List.setIfInBounds_toArray, List.set_cons_zero, List.set_cons_succ]
      refine wpAnyH_take (i := 3) (v := ?_) rfl (by kernel_rfl) (by kernel_rfl) (by kernel_rfl) (fun _ _ _ h => h) (Or.inl ⟨by rfl, ?_⟩) hHeld ?_
      rotate_left
      focus (intro wq hq; clear hq; go_simp; try with_reducible rfl)
      simp only [Act.put, List.getElem_toArray, List.getElem_cons_succ, List.getElem_cons_zero, List.setIfInBounds_toArray, List.set_cons_zero, List.set_cons_succ]
      refine wpAnyH_ready (rs := [4]) (by kernel_rfl) (by simp) ?_
      refine AllReadyH.cons rfl (fun K hK => ?_) AllReadyH.nil
      go_simp
      try dsimp only
      refine hK.out _ _ (⟨Gr.alloc hHeld.1 _, ((Gr.refl _ none).alloc _).cell hHeld.2 (by simp)⟩) (fun hHeld => ?_)
      clear hK K
      try simp only [Act.put, List.getElem_toArray, List.getElem_cons_succ, List.getElem_cons_zero, List.setIfInBounds_toArray, List.set_cons_zero, List.set_cons_succ]
      refine wpAnyH_ready (rs := [5]) (by kernel_rfl) (by simp) ?_
      refine AllReadyH.cons rfl (fun K hK => ?_) AllReadyH.nil
      go_simp
      refine (num_any rb (P + 2) [(0), (11), (1), (3), (8)] 5 rfl _ _ _ (hr3.gr0 ((Gr.refl _ none).drew.alloc _)) (by omega) (inAt_lit _ rb (by simp; omega) _ _ rfl _) (by omega) (by omega)).mono ?_
      rintro e w5 ⟨v5, hm5, rfl, hg5, hr5⟩
      have hgr5 := (Gr.refl w3 none).drew.alloc (.cells (#[.int .i64 (0), .int .i64 (11), .int .i64 (1), .int .i64 (3), .int .i64 (8)] : Array Value) 3)
      have HS5 := Lib.hid ((HS3.out.gr0 hgr5).gr hg5 (fun r e => by cases e; omega))
      have HL5 := Lib.hid ((HL3.out.gr hgr5).far hg5 (fun r e => by cases e; omega))
      have HO5 := Lib.hid ((HO3.out.gr hgr5 (by simp)).gr hg5 (by simp; omega))
      have HZ5 := Lib.hid ((HZ3.out.gr hgr5 (by simp)).gr hg5 (by simp; omega))
      clear hgr5 hm5
      obtain ⟨r5, hrow5, hcell5⟩ := HS5.out.cell hk
      have HCF := Lib.hid (show (w5.cell? ⟨g, k * 6, none⟩ = some (.int .i64 p.body[k].op)) ∧ w5.frozen? ⟨g, k * 6, none⟩ = false from ⟨by obtain ⟨_, _, _, _, _, _, rfl, _⟩ := hrow5; exact hcell5 0 _ rfl, HS5.out.frz _ rfl⟩)
      clear hrow5 hcell5
      try dsimp only
      refine hK.out _ _ (⟨Gr.trans hHeld.1 hg5 (fun r e => .inl e), Gr.cell hg5 hHeld.2 (by simp; omega)⟩) (fun hHeld => ?_)
      clear hK K
      try simp only [Act.put, List.getElem_toArray, List.getElem_cons_succ, List.getElem_cons_zero, List.setIfInBounds_toArray, List.set_cons_zero, List.set_cons_succ]
      refine wpAnyH_take (i := 6) (v := ?_) rfl (by kernel_rfl) (by kernel_rfl) (by kernel_rfl) (fun _ _ _ h => h) (Or.inl ⟨by rfl, ?_⟩) hHeld ?_
      rotate_left
      focus (intro wq hq; clear hq; go_simp; try with_reducible rfl)
      simp only [Act.put, List.getElem_toArray, List.getElem_cons_succ, List.getElem_cons_zero, List.setIfInBounds_toArray, List.set_cons_zero, List.set_cons_succ]
      refine wpAnyH_take (i := 7) (v := ?_) rfl (by kernel_rfl) (by kernel_rfl) (by kernel_rfl) (fun _ _ _ h => h) (Or.inl ⟨by rfl, ?_⟩) hHeld ?_
      rotate_left
      focus (intro wq hq; clear hq; go_simp; try with_reducible rfl)
      simp only [Act.put, List.getElem_toArray, List.getElem_cons_succ, List.getElem_cons_zero, List.setIfInBounds_toArray, List.set_cons_zero, List.set_cons_succ]
      refine wpAnyH_ready (rs := [8]) (by kernel_rfl) (by simp) ?_
      refine AllReadyH.cons rfl (fun K hK => ?_) AllReadyH.nil
      have hcf := HCF.out
      go_simp
      skip
      try dsimp only
      refine hK.out _ _ (⟨hHeld.1.setNew (by show w.heap.size ≤ g; omega) _, by rw [World.cell?_setCell_other _ _ _ _ (by first | (simp; done) | (simp; omega))]; exact hHeld.2⟩) (fun hHeld => ?_)
      clear hK K
      try simp only [Act.put, List.getElem_toArray, List.getElem_cons_succ, List.getElem_cons_zero, List.setIfInBounds_toArray, List.set_cons_zero, List.set_cons_succ]
      refine wpAnyH_done (by kernel_rfl) ?_ _
      have hgs : g < w5.heap.size := HS5.out.own g rfl |>.2
      obtain ⟨s', hs', hSW⟩ := HS5.out.set hk (j := 0) (by omega) v5
      have hW : Gr w5 (w5.setCell ⟨g, k * 6, none⟩ (.int .i64 v5)) (some g) := own_set _ _ _ _
      have HLW := Lib.hid (HL5.out.off hW (fun r e => by cases e; exact HNE.out))
      have hzW := HZ5.out.gr hW (by simp; omega)
      have hoW := HO5.out.gr hW (by simp; omega)
      have HSW := Lib.hid hSW
      have HZW := Lib.hid hzW
      have HRW := Lib.hid (hr5.far hW (fun r e => by cases e; omega))
      have HGW := Lib.hid hHeld.1
      have HC := Lib.hid (show St.count (p.body.set k s') = St.count p.body from count_set _ _ _ hk hs')
      have HLL := Lib.hid (show (p.body.set k s').length = p.body.length by simp)
      clear hW hSW hHeld o0 o1 of
      obtain ⟨W, hWW⟩ : ∃ W : World, W = w5.setCell ⟨g, k * 6, none⟩ (.int .i64 v5) := ⟨_, rfl⟩
      rw [← hWW] at hzW hoW HLW HZW HRW HGW ⊢
      replace HSW := Lib.hid (show Sts W _ _ _ _ by rw [hWW]; exact HSW.out)
      clear hWW
      obtain ⟨z0, z1, zf⟩ := hzW
      obtain ⟨o0, o1, of⟩ := hoW
      go_wp2_with fail
      (try simp only [Exit.inBlock, Exit.then])
      refine mut_ret (b := w.heap.size + 1) HZW.out rfl ?_
      exact mut_end (p' := ⟨p.types, p.body.set k s'⟩) hrb HLW.out hmid HSW.out HGW.out HRW.out (by show p.types.length ≤ 7; omega) (by show St.count (p.body.set k s') ≤ 4000; have := HC.out; omega) rfl (by show _ = Value.slice _ (p.body.set k s').length _; rw [HLL.out])
    · go_upto_region 9 with fail
      obtain ⟨o0, o1, of⟩ := HO3.out
      refine wp_region_held_drew (S := fun w' => Gr w w' (some rb) ∧ w'.cell? ⟨w1.heap.size, 1, none⟩ = some (.slice (some ⟨g, 0, none⟩) p.body.length d1)) (by kernel_rfl) (⟨HG3.out.drew, o1⟩) (fun hHeld => ?_)
      refine wpAnyH_take (i := 0) (v := ?_) rfl (by kernel_rfl) (by kernel_rfl) (by kernel_rfl) (fun _ _ _ h => h) (Or.inl ⟨by rfl, ?_⟩) hHeld ?_
      rotate_left
      focus (intro wq hq; clear hq; go_simp; try with_reducible rfl)
      simp only [Act.put, List.getElem_toArray, List.getElem_cons_zero, List.setIfInBounds_toArray, List.set_cons_zero, List.set_cons_succ]
      refine wpAnyH_take (i := 1) (v := ?_) rfl (by kernel_rfl) (by kernel_rfl) (by kernel_rfl) (fun _ _ _ h => h) (Or.inl ⟨by rfl, ?_⟩) hHeld ?_
      rotate_left
      focus (intro wq hq; have k0 := hq.2; go_simp; try with_reducible rfl)
      simp only [Act.put, List.getElem_toArray, List.getElem_cons_succ, List.getElem_cons_zero, List.setIfInBounds_toArray, List.set_cons_zero, List.set_cons_succ]
      refine wpAnyH_take (i := 2) (v := ?_) rfl (by kernel_rfl) (by kernel_rfl) (by kernel_rfl) (fun _ _ _ h => h) (Or.inl ⟨by rfl, ?_⟩) hHeld ?_
      rotate_left
      focus (intro wq hq; clear hq; go_simp; try with_reducible rfl)
      simp only [Act.put, List.getElem_toArray, List.getElem_cons_succ, List.getElem_cons_zero, List.setIfInBounds_toArray, List.set_cons_zero, List.set_cons_succ]
      refine wpAnyH_take (i := 3) (v := ?_) rfl (by kernel_rfl) (by kernel_rfl) (by kernel_rfl) (fun _ _ _ h => h) (Or.inl ⟨by rfl, ?_⟩) hHeld ?_
      rotate_left
      focus (intro wq hq; clear hq; go_simp; try with_reducible rfl)
      simp only [Act.put, List.getElem_toArray, List.getElem_cons_succ, List.getElem_cons_zero, List.setIfInBounds_toArray, List.set_cons_zero, List.set_cons_succ]
      refine wpAnyH_ready (rs := [4]) (by kernel_rfl) (by simp) ?_
      refine AllReadyH.cons rfl (fun K hK => ?_) AllReadyH.nil
      go_simp
      try dsimp only
      refine hK.out _ _ (⟨Gr.alloc hHeld.1 _, ((Gr.refl _ none).alloc _).cell hHeld.2 (by simp)⟩) (fun hHeld => ?_)
      clear hK K
      try simp only [Act.put, List.getElem_toArray, List.getElem_cons_succ, List.getElem_cons_zero, List.setIfInBounds_toArray, List.set_cons_zero, List.set_cons_succ]
      refine wpAnyH_ready (rs := [5]) (by kernel_rfl) (by simp) ?_
      refine AllReadyH.cons rfl (fun K hK => ?_) AllReadyH.nil
      go_simp
      refine (num_any rb (P + 2) [(6), (-1), (0), (1)] 4 rfl _ _ _ (hr3.gr0 ((Gr.refl _ none).drew.alloc _)) (by omega) (inAt_lit _ rb (by simp; omega) _ _ rfl _) (by omega) (by omega)).mono ?_
      rintro e w5 ⟨v5, hm5, rfl, hg5, hr5⟩
      have hgr5 := (Gr.refl w3 none).drew.alloc (.cells (#[.int .i64 (6), .int .i64 (-1), .int .i64 (0), .int .i64 (1)] : Array Value) 3)
      have HS5 := Lib.hid ((HS3.out.gr0 hgr5).gr hg5 (fun r e => by cases e; omega))
      have HL5 := Lib.hid ((HL3.out.gr hgr5).far hg5 (fun r e => by cases e; omega))
      have HO5 := Lib.hid ((HO3.out.gr hgr5 (by simp)).gr hg5 (by simp; omega))
      have HZ5 := Lib.hid ((HZ3.out.gr hgr5 (by simp)).gr hg5 (by simp; omega))
      clear hgr5 hm5
      obtain ⟨r5, hrow5, hcell5⟩ := HS5.out.cell hk
      have HCF := Lib.hid (show (w5.cell? ⟨g, k * 6 + 1, none⟩ = some (.int .i64 p.body[k].x)) ∧ w5.frozen? ⟨g, k * 6 + 1, none⟩ = false from ⟨by obtain ⟨_, _, _, _, _, _, rfl, _⟩ := hrow5; exact hcell5 1 _ rfl, HS5.out.frz _ rfl⟩)
      clear hrow5 hcell5
      try dsimp only
      refine hK.out _ _ (⟨Gr.trans hHeld.1 hg5 (fun r e => .inl e), Gr.cell hg5 hHeld.2 (by simp; omega)⟩) (fun hHeld => ?_)
      clear hK K
      try simp only [Act.put, List.getElem_toArray, List.getElem_cons_succ, List.getElem_cons_zero, List.setIfInBounds_toArray, List.set_cons_zero, List.set_cons_succ]
      refine wpAnyH_take (i := 6) (v := ?_) rfl (by kernel_rfl) (by kernel_rfl) (by kernel_rfl) (fun _ _ _ h => h) (Or.inl ⟨by rfl, ?_⟩) hHeld ?_
      rotate_left
      focus (intro wq hq; clear hq; go_simp; try with_reducible rfl)
      simp only [Act.put, List.getElem_toArray, List.getElem_cons_succ, List.getElem_cons_zero, List.setIfInBounds_toArray, List.set_cons_zero, List.set_cons_succ]
      refine wpAnyH_take (i := 7) (v := ?_) rfl (by kernel_rfl) (by kernel_rfl) (by kernel_rfl) (fun _ _ _ h => h) (Or.inl ⟨by rfl, ?_⟩) hHeld ?_
      rotate_left
      focus (intro wq hq; clear hq; go_simp; try with_reducible rfl)
      simp only [Act.put, List.getElem_toArray, List.getElem_cons_succ, List.getElem_cons_zero, List.setIfInBounds_toArray, List.set_cons_zero, List.set_cons_succ]
      refine wpAnyH_ready (rs := [8]) (by kernel_rfl) (by simp) ?_
      refine AllReadyH.cons rfl (fun K hK => ?_) AllReadyH.nil
      have hcf := HCF.out
      go_simp
      skip
      try dsimp only
      refine hK.out _ _ (⟨hHeld.1.setNew (by show w.heap.size ≤ g; omega) _, by rw [World.cell?_setCell_other _ _ _ _ (by first | (simp; done) | (simp; omega))]; exact hHeld.2⟩) (fun hHeld => ?_)
      clear hK K
      try simp only [Act.put, List.getElem_toArray, List.getElem_cons_succ, List.getElem_cons_zero, List.setIfInBounds_toArray, List.set_cons_zero, List.set_cons_succ]
      refine wpAnyH_done (by kernel_rfl) ?_ _
      have hgs : g < w5.heap.size := HS5.out.own g rfl |>.2
      obtain ⟨s', hs', hSW⟩ := HS5.out.set hk (j := 1) (by omega) v5
      have hW : Gr w5 (w5.setCell ⟨g, k * 6 + 1, none⟩ (.int .i64 v5)) (some g) := own_set _ _ _ _
      have HLW := Lib.hid (HL5.out.off hW (fun r e => by cases e; exact HNE.out))
      have hzW := HZ5.out.gr hW (by simp; omega)
      have hoW := HO5.out.gr hW (by simp; omega)
      have HSW := Lib.hid hSW
      have HZW := Lib.hid hzW
      have HRW := Lib.hid (hr5.far hW (fun r e => by cases e; omega))
      have HGW := Lib.hid hHeld.1
      have HC := Lib.hid (show St.count (p.body.set k s') = St.count p.body from count_set _ _ _ hk hs')
      have HLL := Lib.hid (show (p.body.set k s').length = p.body.length by simp)
      clear hW hSW hHeld o0 o1 of
      obtain ⟨W, hWW⟩ : ∃ W : World, W = w5.setCell ⟨g, k * 6 + 1, none⟩ (.int .i64 v5) := ⟨_, rfl⟩
      rw [← hWW] at hzW hoW HLW HZW HRW HGW ⊢
      replace HSW := Lib.hid (show Sts W _ _ _ _ by rw [hWW]; exact HSW.out)
      clear hWW
      obtain ⟨z0, z1, zf⟩ := hzW
      obtain ⟨o0, o1, of⟩ := hoW
      go_wp2_with fail
      (try simp only [Exit.inBlock, Exit.then])
      refine mut_ret (b := w.heap.size + 1) HZW.out rfl ?_
      exact mut_end (p' := ⟨p.types, p.body.set k s'⟩) hrb HLW.out hmid HSW.out HGW.out HRW.out (by show p.types.length ≤ 7; omega) (by show St.count (p.body.set k s') ≤ 4000; have := HC.out; omega) rfl (by show _ = Value.slice _ (p.body.set k s').length _; rw [HLL.out])
    · go_upto_region 11 with fail
      obtain ⟨o0, o1, of⟩ := HO3.out
      refine wp_region_held_drew (S := fun w' => Gr w w' (some rb) ∧ w'.cell? ⟨w1.heap.size, 1, none⟩ = some (.slice (some ⟨g, 0, none⟩) p.body.length d1)) (by kernel_rfl) (⟨HG3.out.drew, o1⟩) (fun hHeld => ?_)
      refine wpAnyH_take (i := 0) (v := ?_) rfl (by kernel_rfl) (by kernel_rfl) (by kernel_rfl) (fun _ _ _ h => h) (Or.inl ⟨by rfl, ?_⟩) hHeld ?_
      rotate_left
      focus (intro wq hq; clear hq; go_simp; try with_reducible rfl)
      simp only [Act.put, List.getElem_toArray, List.getElem_cons_zero, List.setIfInBounds_toArray, List.set_cons_zero, List.set_cons_succ]
      refine wpAnyH_take (i := 1) (v := ?_) rfl (by kernel_rfl) (by kernel_rfl) (by kernel_rfl) (fun _ _ _ h => h) (Or.inl ⟨by rfl, ?_⟩) hHeld ?_
      rotate_left
      focus (intro wq hq; have k0 := hq.2; go_simp; try with_reducible rfl)
      simp only [Act.put, List.getElem_toArray, List.getElem_cons_succ, List.getElem_cons_zero, List.setIfInBounds_toArray, List.set_cons_zero, List.set_cons_succ]
      refine wpAnyH_take (i := 2) (v := ?_) rfl (by kernel_rfl) (by kernel_rfl) (by kernel_rfl) (fun _ _ _ h => h) (Or.inl ⟨by rfl, ?_⟩) hHeld ?_
      rotate_left
      focus (intro wq hq; clear hq; go_simp; try with_reducible rfl)
      simp only [Act.put, List.getElem_toArray, List.getElem_cons_succ, List.getElem_cons_zero, List.setIfInBounds_toArray, List.set_cons_zero, List.set_cons_succ]
      refine wpAnyH_take (i := 3) (v := ?_) rfl (by kernel_rfl) (by kernel_rfl) (by kernel_rfl) (fun _ _ _ h => h) (Or.inl ⟨by rfl, ?_⟩) hHeld ?_
      rotate_left
      focus (intro wq hq; clear hq; go_simp; try with_reducible rfl)
      simp only [Act.put, List.getElem_toArray, List.getElem_cons_succ, List.getElem_cons_zero, List.setIfInBounds_toArray, List.set_cons_zero, List.set_cons_succ]
      refine wpAnyH_ready (rs := [4]) (by kernel_rfl) (by simp) ?_
      refine AllReadyH.cons rfl (fun K hK => ?_) AllReadyH.nil
      go_simp
      try dsimp only
      refine hK.out _ _ (⟨Gr.alloc hHeld.1 _, ((Gr.refl _ none).alloc _).cell hHeld.2 (by simp)⟩) (fun hHeld => ?_)
      clear hK K
      try simp only [Act.put, List.getElem_toArray, List.getElem_cons_succ, List.getElem_cons_zero, List.setIfInBounds_toArray, List.set_cons_zero, List.set_cons_succ]
      refine wpAnyH_ready (rs := [5]) (by kernel_rfl) (by simp) ?_
      refine AllReadyH.cons rfl (fun K hK => ?_) AllReadyH.nil
      go_simp
      refine (num_any rb (P + 2) [(6), (-1), (0), (1)] 4 rfl _ _ _ (hr3.gr0 ((Gr.refl _ none).drew.alloc _)) (by omega) (inAt_lit _ rb (by simp; omega) _ _ rfl _) (by omega) (by omega)).mono ?_
      rintro e w5 ⟨v5, hm5, rfl, hg5, hr5⟩
      have hgr5 := (Gr.refl w3 none).drew.alloc (.cells (#[.int .i64 (6), .int .i64 (-1), .int .i64 (0), .int .i64 (1)] : Array Value) 3)
      have HS5 := Lib.hid ((HS3.out.gr0 hgr5).gr hg5 (fun r e => by cases e; omega))
      have HL5 := Lib.hid ((HL3.out.gr hgr5).far hg5 (fun r e => by cases e; omega))
      have HO5 := Lib.hid ((HO3.out.gr hgr5 (by simp)).gr hg5 (by simp; omega))
      have HZ5 := Lib.hid ((HZ3.out.gr hgr5 (by simp)).gr hg5 (by simp; omega))
      clear hgr5 hm5
      obtain ⟨r5, hrow5, hcell5⟩ := HS5.out.cell hk
      have HCF := Lib.hid (show (w5.cell? ⟨g, k * 6 + 2, none⟩ = some (.int .i64 p.body[k].y)) ∧ w5.frozen? ⟨g, k * 6 + 2, none⟩ = false from ⟨by obtain ⟨_, _, _, _, _, _, rfl, _⟩ := hrow5; exact hcell5 2 _ rfl, HS5.out.frz _ rfl⟩)
      clear hrow5 hcell5
      try dsimp only
      refine hK.out _ _ (⟨Gr.trans hHeld.1 hg5 (fun r e => .inl e), Gr.cell hg5 hHeld.2 (by simp; omega)⟩) (fun hHeld => ?_)
      clear hK K
      try simp only [Act.put, List.getElem_toArray, List.getElem_cons_succ, List.getElem_cons_zero, List.setIfInBounds_toArray, List.set_cons_zero, List.set_cons_succ]
      refine wpAnyH_take (i := 6) (v := ?_) rfl (by kernel_rfl) (by kernel_rfl) (by kernel_rfl) (fun _ _ _ h => h) (Or.inl ⟨by rfl, ?_⟩) hHeld ?_
      rotate_left
      focus (intro wq hq; clear hq; go_simp; try with_reducible rfl)
      simp only [Act.put, List.getElem_toArray, List.getElem_cons_succ, List.getElem_cons_zero, List.setIfInBounds_toArray, List.set_cons_zero, List.set_cons_succ]
      refine wpAnyH_take (i := 7) (v := ?_) rfl (by kernel_rfl) (by kernel_rfl) (by kernel_rfl) (fun _ _ _ h => h) (Or.inl ⟨by rfl, ?_⟩) hHeld ?_
      rotate_left
      focus (intro wq hq; clear hq; go_simp; try with_reducible rfl)
      simp only [Act.put, List.getElem_toArray, List.getElem_cons_succ, List.getElem_cons_zero, List.setIfInBounds_toArray, List.set_cons_zero, List.set_cons_succ]
      refine wpAnyH_ready (rs := [8]) (by kernel_rfl) (by simp) ?_
      refine AllReadyH.cons rfl (fun K hK => ?_) AllReadyH.nil
      have hcf := HCF.out
      go_simp
      skip
      try dsimp only
      refine hK.out _ _ (⟨hHeld.1.setNew (by show w.heap.size ≤ g; omega) _, by rw [World.cell?_setCell_other _ _ _ _ (by first | (simp; done) | (simp; omega))]; exact hHeld.2⟩) (fun hHeld => ?_)
      clear hK K
      try simp only [Act.put, List.getElem_toArray, List.getElem_cons_succ, List.getElem_cons_zero, List.setIfInBounds_toArray, List.set_cons_zero, List.set_cons_succ]
      refine wpAnyH_done (by kernel_rfl) ?_ _
      have hgs : g < w5.heap.size := HS5.out.own g rfl |>.2
      obtain ⟨s', hs', hSW⟩ := HS5.out.set hk (j := 2) (by omega) v5
      have hW : Gr w5 (w5.setCell ⟨g, k * 6 + 2, none⟩ (.int .i64 v5)) (some g) := own_set _ _ _ _
      have HLW := Lib.hid (HL5.out.off hW (fun r e => by cases e; exact HNE.out))
      have hzW := HZ5.out.gr hW (by simp; omega)
      have hoW := HO5.out.gr hW (by simp; omega)
      have HSW := Lib.hid hSW
      have HZW := Lib.hid hzW
      have HRW := Lib.hid (hr5.far hW (fun r e => by cases e; omega))
      have HGW := Lib.hid hHeld.1
      have HC := Lib.hid (show St.count (p.body.set k s') = St.count p.body from count_set _ _ _ hk hs')
      have HLL := Lib.hid (show (p.body.set k s').length = p.body.length by simp)
      clear hW hSW hHeld o0 o1 of
      obtain ⟨W, hWW⟩ : ∃ W : World, W = w5.setCell ⟨g, k * 6 + 2, none⟩ (.int .i64 v5) := ⟨_, rfl⟩
      rw [← hWW] at hzW hoW HLW HZW HRW HGW ⊢
      replace HSW := Lib.hid (show Sts W _ _ _ _ by rw [hWW]; exact HSW.out)
      clear hWW
      obtain ⟨z0, z1, zf⟩ := hzW
      obtain ⟨o0, o1, of⟩ := hoW
      go_wp2_with fail
      (try simp only [Exit.inBlock, Exit.then])
      refine mut_ret (b := w.heap.size + 1) HZW.out rfl ?_
      exact mut_end (p' := ⟨p.types, p.body.set k s'⟩) hrb HLW.out hmid HSW.out HGW.out HRW.out (by show p.types.length ≤ 7; omega) (by show St.count (p.body.set k s') ≤ 4000; have := HC.out; omega) rfl (by show _ = Value.slice _ (p.body.set k s').length _; rw [HLL.out])
    · go_upto_region 13 with fail
      obtain ⟨o0, o1, of⟩ := HO3.out
      refine wp_region_held_drew (S := fun w' => Gr w w' (some rb) ∧ w'.cell? ⟨w1.heap.size, 1, none⟩ = some (.slice (some ⟨g, 0, none⟩) p.body.length d1)) (by kernel_rfl) (⟨HG3.out.drew, o1⟩) (fun hHeld => ?_)
      refine wpAnyH_take (i := 0) (v := ?_) rfl (by kernel_rfl) (by kernel_rfl) (by kernel_rfl) (fun _ _ _ h => h) (Or.inl ⟨by rfl, ?_⟩) hHeld ?_
      rotate_left
      focus (intro wq hq; clear hq; go_simp; try with_reducible rfl)
      simp only [Act.put, List.getElem_toArray, List.getElem_cons_zero, List.setIfInBounds_toArray, List.set_cons_zero, List.set_cons_succ]
      refine wpAnyH_take (i := 1) (v := ?_) rfl (by kernel_rfl) (by kernel_rfl) (by kernel_rfl) (fun _ _ _ h => h) (Or.inl ⟨by rfl, ?_⟩) hHeld ?_
      rotate_left
      focus (intro wq hq; have k0 := hq.2; go_simp; try with_reducible rfl)
      simp only [Act.put, List.getElem_toArray, List.getElem_cons_succ, List.getElem_cons_zero, List.setIfInBounds_toArray, List.set_cons_zero, List.set_cons_succ]
      refine wpAnyH_take (i := 2) (v := ?_) rfl (by kernel_rfl) (by kernel_rfl) (by kernel_rfl) (fun _ _ _ h => h) (Or.inl ⟨by rfl, ?_⟩) hHeld ?_
      rotate_left
      focus (intro wq hq; clear hq; go_simp; try with_reducible rfl)
      simp only [Act.put, List.getElem_toArray, List.getElem_cons_succ, List.getElem_cons_zero, List.setIfInBounds_toArray, List.set_cons_zero, List.set_cons_succ]
      refine wpAnyH_take (i := 3) (v := ?_) rfl (by kernel_rfl) (by kernel_rfl) (by kernel_rfl) (fun _ _ _ h => h) (Or.inl ⟨by rfl, ?_⟩) hHeld ?_
      rotate_left
      focus (intro wq hq; clear hq; go_simp; try with_reducible rfl)
      simp only [Act.put, List.getElem_toArray, List.getElem_cons_succ, List.getElem_cons_zero, List.setIfInBounds_toArray, List.set_cons_zero, List.set_cons_succ]
      refine wpAnyH_ready (rs := [4]) (by kernel_rfl) (by simp) ?_
      refine AllReadyH.cons rfl (fun K hK => ?_) AllReadyH.nil
      go_simp
      try dsimp only
      refine hK.out _ _ (⟨Gr.alloc hHeld.1 _, ((Gr.refl _ none).alloc _).cell hHeld.2 (by simp)⟩) (fun hHeld => ?_)
      clear hK K
      try simp only [Act.put, List.getElem_toArray, List.getElem_cons_succ, List.getElem_cons_zero, List.setIfInBounds_toArray, List.set_cons_zero, List.set_cons_succ]
      refine wpAnyH_ready (rs := [5]) (by kernel_rfl) (by simp) ?_
      refine AllReadyH.cons rfl (fun K hK => ?_) AllReadyH.nil
      go_simp
      refine (num_any rb (P + 2) [(10), (-1), (5)] 3 rfl _ _ _ (hr3.gr0 ((Gr.refl _ none).drew.alloc _)) (by omega) (inAt_lit _ rb (by simp; omega) _ _ rfl _) (by omega) (by omega)).mono ?_
      rintro e w5 ⟨v5, hm5, rfl, hg5, hr5⟩
      have hgr5 := (Gr.refl w3 none).drew.alloc (.cells (#[.int .i64 (10), .int .i64 (-1), .int .i64 (5)] : Array Value) 3)
      have HS5 := Lib.hid ((HS3.out.gr0 hgr5).gr hg5 (fun r e => by cases e; omega))
      have HL5 := Lib.hid ((HL3.out.gr hgr5).far hg5 (fun r e => by cases e; omega))
      have HO5 := Lib.hid ((HO3.out.gr hgr5 (by simp)).gr hg5 (by simp; omega))
      have HZ5 := Lib.hid ((HZ3.out.gr hgr5 (by simp)).gr hg5 (by simp; omega))
      clear hgr5 hm5
      obtain ⟨r5, hrow5, hcell5⟩ := HS5.out.cell hk
      have HCF := Lib.hid (show (w5.cell? ⟨g, k * 6 + 3, none⟩ = some (.int .i64 p.body[k].n)) ∧ w5.frozen? ⟨g, k * 6 + 3, none⟩ = false from ⟨by obtain ⟨_, _, _, _, _, _, rfl, _⟩ := hrow5; exact hcell5 3 _ rfl, HS5.out.frz _ rfl⟩)
      clear hrow5 hcell5
      try dsimp only
      refine hK.out _ _ (⟨Gr.trans hHeld.1 hg5 (fun r e => .inl e), Gr.cell hg5 hHeld.2 (by simp; omega)⟩) (fun hHeld => ?_)
      clear hK K
      try simp only [Act.put, List.getElem_toArray, List.getElem_cons_succ, List.getElem_cons_zero, List.setIfInBounds_toArray, List.set_cons_zero, List.set_cons_succ]
      refine wpAnyH_take (i := 6) (v := ?_) rfl (by kernel_rfl) (by kernel_rfl) (by kernel_rfl) (fun _ _ _ h => h) (Or.inl ⟨by rfl, ?_⟩) hHeld ?_
      rotate_left
      focus (intro wq hq; clear hq; go_simp; try with_reducible rfl)
      simp only [Act.put, List.getElem_toArray, List.getElem_cons_succ, List.getElem_cons_zero, List.setIfInBounds_toArray, List.set_cons_zero, List.set_cons_succ]
      refine wpAnyH_take (i := 7) (v := ?_) rfl (by kernel_rfl) (by kernel_rfl) (by kernel_rfl) (fun _ _ _ h => h) (Or.inl ⟨by rfl, ?_⟩) hHeld ?_
      rotate_left
      focus (intro wq hq; clear hq; go_simp; try with_reducible rfl)
      simp only [Act.put, List.getElem_toArray, List.getElem_cons_succ, List.getElem_cons_zero, List.setIfInBounds_toArray, List.set_cons_zero, List.set_cons_succ]
      refine wpAnyH_ready (rs := [8]) (by kernel_rfl) (by simp) ?_
      refine AllReadyH.cons rfl (fun K hK => ?_) AllReadyH.nil
      have hcf := HCF.out
      go_simp
      skip
      try dsimp only
      refine hK.out _ _ (⟨hHeld.1.setNew (by show w.heap.size ≤ g; omega) _, by rw [World.cell?_setCell_other _ _ _ _ (by first | (simp; done) | (simp; omega))]; exact hHeld.2⟩) (fun hHeld => ?_)
      clear hK K
      try simp only [Act.put, List.getElem_toArray, List.getElem_cons_succ, List.getElem_cons_zero, List.setIfInBounds_toArray, List.set_cons_zero, List.set_cons_succ]
      refine wpAnyH_done (by kernel_rfl) ?_ _
      have hgs : g < w5.heap.size := HS5.out.own g rfl |>.2
      obtain ⟨s', hs', hSW⟩ := HS5.out.set hk (j := 3) (by omega) v5
      have hW : Gr w5 (w5.setCell ⟨g, k * 6 + 3, none⟩ (.int .i64 v5)) (some g) := own_set _ _ _ _
      have HLW := Lib.hid (HL5.out.off hW (fun r e => by cases e; exact HNE.out))
      have hzW := HZ5.out.gr hW (by simp; omega)
      have hoW := HO5.out.gr hW (by simp; omega)
      have HSW := Lib.hid hSW
      have HZW := Lib.hid hzW
      have HRW := Lib.hid (hr5.far hW (fun r e => by cases e; omega))
      have HGW := Lib.hid hHeld.1
      have HC := Lib.hid (show St.count (p.body.set k s') = St.count p.body from count_set _ _ _ hk hs')
      have HLL := Lib.hid (show (p.body.set k s').length = p.body.length by simp)
      clear hW hSW hHeld o0 o1 of
      obtain ⟨W, hWW⟩ : ∃ W : World, W = w5.setCell ⟨g, k * 6 + 3, none⟩ (.int .i64 v5) := ⟨_, rfl⟩
      rw [← hWW] at hzW hoW HLW HZW HRW HGW ⊢
      replace HSW := Lib.hid (show Sts W _ _ _ _ by rw [hWW]; exact HSW.out)
      clear hWW
      obtain ⟨z0, z1, zf⟩ := hzW
      obtain ⟨o0, o1, of⟩ := hoW
      go_wp2_with fail
      (try simp only [Exit.inBlock, Exit.then])
      refine mut_ret (b := w.heap.size + 1) HZW.out rfl ?_
      exact mut_end (p' := ⟨p.types, p.body.set k s'⟩) hrb HLW.out hmid HSW.out HGW.out HRW.out (by show p.types.length ≤ 7; omega) (by show St.count (p.body.set k s') ≤ 4000; have := HC.out; omega) rfl (by show _ = Value.slice _ (p.body.set k s').length _; rw [HLL.out])
    · go_upto_region 15 with fail
      have hlA : w1.heap.size < w3.heap.size := HO3.out.lt
      refine wp_region_held_drew (S := fun w' => Gr w w' (some rb)) (by kernel_rfl) (HG3.out.drew) (fun hHeld => ?_)
      refine wpAnyH_take (i := 0) (v := ?_) rfl (by kernel_rfl) (by kernel_rfl) (by kernel_rfl) (fun _ _ _ h => h) (Or.inl ⟨by rfl, ?_⟩) hHeld ?_
      rotate_left
      focus (intro wq hq; clear hq; go_simp; try with_reducible rfl)
      simp only [Act.put, List.getElem_toArray, List.getElem_cons_zero, List.setIfInBounds_toArray, List.set_cons_zero, List.set_cons_succ]
      refine wpAnyH_take (i := 2) (v := ?_) rfl (by kernel_rfl) (by kernel_rfl) (by kernel_rfl) (fun _ _ _ h => h) (Or.inl ⟨by rfl, ?_⟩) hHeld ?_
      rotate_left
      focus (intro wq hq; clear hq; go_simp; try with_reducible rfl)
      simp only [Act.put, List.getElem_toArray, List.getElem_cons_succ, List.getElem_cons_zero, List.setIfInBounds_toArray, List.set_cons_zero, List.set_cons_succ]
      refine wpAnyH_ready (rs := [1, 3]) (by kernel_rfl) (by simp) ?_
      refine AllReadyH.cons rfl (fun K hK => ?_) (AllReadyH.cons rfl (fun K hK => ?_) AllReadyH.nil)
      · have k0 := (HO3.out.gr (Gr.refl w3 none).drew (by simp)).1
        have k00 := HO3.out.1
        go_simp
        try dsimp only
        refine hK.out _ _ (hHeld) (fun hHeld => ?_)
        clear hK K
        try simp only [Act.put, List.getElem_toArray, List.getElem_cons_succ, List.getElem_cons_zero, List.setIfInBounds_toArray, List.set_cons_zero, List.set_cons_succ]
        refine wpAnyH_ready (rs := [3]) (by kernel_rfl) (by simp) ?_
        refine AllReadyH.cons rfl (fun K hK => ?_) AllReadyH.nil
        go_simp
        try dsimp only
        refine hK.out _ _ (Gr.alloc hHeld _) (fun hHeld => ?_)
        clear hK K
        try simp only [Act.put, List.getElem_toArray, List.getElem_cons_succ, List.getElem_cons_zero, List.setIfInBounds_toArray, List.set_cons_zero, List.set_cons_succ]
        refine wpAnyH_ready (rs := [4]) (by kernel_rfl) (by simp) ?_
        refine AllReadyH.cons rfl (fun K hK => ?_) AllReadyH.nil
        go_simp
        refine (num_any rb (P + 2) [1, 5, 0, 4] 4 rfl _ _ _ (hr3.gr0 ((Gr.refl _ none).drew.alloc _)) (by omega) (inAt_lit _ rb (by simp; omega) _ _ rfl _) (by omega) (by omega)).mono ?_
        rintro e w5 ⟨v5, hm5, rfl, hg5, hr5⟩
        have hgr5 := (Gr.refl w3 none).drew.alloc (.cells (#[.int .i64 1, .int .i64 5, .int .i64 0, .int .i64 4] : Array Value) 3)
        have HS5 := Lib.hid ((HS3.out.gr0 hgr5).gr hg5 (fun r e => by cases e; omega))
        have HL5 := Lib.hid ((HL3.out.gr hgr5).far hg5 (fun r e => by cases e; omega))
        have HO5 := Lib.hid ((HO3.out.gr hgr5 (by simp)).gr hg5 (by simp; omega))
        have HZ5 := Lib.hid ((HZ3.out.gr hgr5 (by simp)).gr hg5 (by simp; omega))
        have HB5 := Lib.hid ((hg5.block w1.heap.size (by simp; omega) (by simp; omega)).trans ((hgr5.block w1.heap.size (by omega) (by simp)).trans HB3.out))
        have hs5 : w3.heap.size < w5.heap.size := by have := hg5.size; simp at this; omega
        have HR5 := Lib.hid hr5
        clear hgr5 hm5 hr5
        try dsimp only
        refine hK.out _ _ (Gr.trans hHeld hg5 (fun r e => .inl e)) (fun hHeld => ?_)
        clear hK K
        try simp only [Act.put, List.getElem_toArray, List.getElem_cons_succ, List.getElem_cons_zero, List.setIfInBounds_toArray, List.set_cons_zero, List.set_cons_succ]
        refine wpAnyH_ready (rs := [5]) (by kernel_rfl) (by simp) ?_
        refine AllReadyH.cons rfl (fun K hK => ?_) AllReadyH.nil
        go_simp
        try dsimp only
        refine hK.out _ _ (Gr.alloc hHeld _) (fun hHeld => ?_)
        clear hK K
        try simp only [Act.put, List.getElem_toArray, List.getElem_cons_succ, List.getElem_cons_zero, List.setIfInBounds_toArray, List.set_cons_zero, List.set_cons_succ]
        refine wpAnyH_ready (rs := [6]) (by kernel_rfl) (by simp) ?_
        refine AllReadyH.cons rfl (fun K hK => ?_) AllReadyH.nil
        refine step_app_r w5 _ rfl (.tmp 65) (.tmp 69) 23 rfl 3 1 8 _ Try.underlying23 Qinfo rfl (by decide) (by decide) (w.heap.size + 2) (w.heap.size + 2) a1 c1 p.types.length (p.types.map fun x => [Value.int .i64 x]) [.int .i64 v5] rfl (lst_rows1 HL5.out) ((Gr.refl _ _).alloc _) w5.heap.size 1 rfl _ (heap1_0 _ _) rfl rfl (by intro u hu; simp at hu; subst hu; rfl) (by omega) (by omega) ?_
        rintro g6 cap6 w6 hL6 - hg6
        have HL6 := Lib.hid hL6
        have hga5 := (Gr.refl w5 none).alloc (.cells #[.int .i64 v5] 3)
        have HS6 := Lib.hid ((HS5.out.gr0 hga5).gr hg6 (fun r e => HDJ.out r e))
        have HO6 := Lib.hid ((HO5.out.gr hga5 (by simp)).gr hg6 (fun e => by have := (HA1.out _ e).2; omega))
        have HZ6 := Lib.hid ((HZ5.out.gr hga5 (by simp)).gr hg6 (fun e => by have := (HA1.out _ e).1; omega))
        have HB6 := Lib.hid ((hg6.block w1.heap.size (by simp; omega) (fun e => by have := (HA1.out _ e.symm).2; omega)).trans ((hga5.block w1.heap.size (by omega) (by simp)).trans HB5.out))
        have HR6 := Lib.hid ((HR5.out.gr0 hga5).far hg6 (fun r e => by have := (HA1.out r e).1; omega))
        clear hga5 hL6
        try dsimp only
        refine hK.out _ _ (Gr.trans hHeld hg6 (fun r e => .inr (by have := (HA1.out r e).1; omega))) (fun hHeld => ?_)
        clear hK K
        try simp only [Act.put, List.getElem_toArray, List.getElem_cons_succ, List.getElem_cons_zero, List.setIfInBounds_toArray, List.set_cons_zero, List.set_cons_succ]
        refine wpAnyH_take (i := 7) (v := ?_) rfl (by kernel_rfl) (by kernel_rfl) (by kernel_rfl) (fun _ _ _ h => h) (Or.inl ⟨by rfl, ?_⟩) hHeld ?_
        rotate_left
        focus (intro wq hq; clear hq; go_simp; try with_reducible rfl)
        simp only [Act.put, List.getElem_toArray, List.getElem_cons_succ, List.getElem_cons_zero, List.setIfInBounds_toArray, List.set_cons_zero, List.set_cons_succ]
        refine wpAnyH_ready (rs := [8]) (by kernel_rfl) (by simp) ?_
        refine AllReadyH.cons rfl (fun K hK => ?_) AllReadyH.nil
        have k0 := HO6.out.1
        have k1 := HO6.out.2.2 0
        go_simp
        skip
        try dsimp only
        refine hK.out _ _ (hHeld.setNew (by show w.heap.size ≤ w1.heap.size; omega) _) (fun hHeld => ?_)
        clear hK K
        try simp only [Act.put, List.getElem_toArray, List.getElem_cons_succ, List.getElem_cons_zero, List.setIfInBounds_toArray, List.set_cons_zero, List.set_cons_succ]
        refine wpAnyH_done (by kernel_rfl) ?_ _
        have hW : Gr w6 (w6.setCell ⟨w1.heap.size, 0, none⟩ (.slice (some ⟨g6, 0, none⟩) (p.types.length + 1) cap6)) (some w1.heap.size) := own_set _ _ _ _
        have HLW := Lib.hid ((lst_of_rows (l := p.types ++ [v5]) (by simpa using HL6.out)).offB (by simp) HB6.out hW)
        have HSW := Lib.hid (HS6.out.offB HB6.out hW)
        have hzW := HZ6.out.gr hW (by simp; omega)
        have HRW := Lib.hid (HR6.out.far hW (fun r e => by cases e; omega))
        have HGW := Lib.hid hHeld
        have o0W : (w6.setCell ⟨w1.heap.size, 0, none⟩ (.slice (some ⟨g6, 0, none⟩) (p.types.length + 1) cap6)).cell? ⟨w1.heap.size, 0, none⟩ = some (.slice (some ⟨g6, 0, none⟩) (p.types.length + 1) cap6) := World.cell?_setCell_same _ _ _ HO6.out.1
        have o1W : (w6.setCell ⟨w1.heap.size, 0, none⟩ (.slice (some ⟨g6, 0, none⟩) (p.types.length + 1) cap6)).cell? ⟨w1.heap.size, 1, none⟩ = some (.slice (some ⟨g, 0, none⟩) p.body.length d1) := by rw [World.cell?_setCell_other _ _ _ _ (by simp)]; exact HO6.out.2.1
        have HZW := Lib.hid hzW
        clear hW
        obtain ⟨W, hWW⟩ : ∃ W : World, W = w6.setCell ⟨w1.heap.size, 0, none⟩ (.slice (some ⟨g6, 0, none⟩) (p.types.length + 1) cap6) := ⟨_, rfl⟩
        rw [← hWW] at hzW o0W o1W HLW HZW HRW HGW HSW ⊢
        clear hWW
        obtain ⟨z0, z1, zf⟩ := hzW
        go_wp2_with fail
        (try simp only [Exit.inBlock, Exit.then])
        refine mut_ret (b := w.heap.size + 1) HZW.out rfl ?_
        exact mut_end (p' := ⟨p.types ++ [v5], p.body⟩) hrb (by show Lst W _ _ _ _ (p.types ++ [v5]).length _; rw [List.length_append]; exact HLW.out) hmid HSW.out HGW.out (HRW.out.mono (by omega)) (by show (p.types ++ [v5]).length ≤ 7; rw [List.length_append]; simp; omega) (by show St.count p.body ≤ 4000; omega) (by show _ = Value.slice _ (p.types ++ [v5]).length _; rw [List.length_append]; rfl) rfl
      · go_simp
        try dsimp only
        refine hK.out _ _ (Gr.alloc hHeld _) (fun hHeld => ?_)
        clear hK K
        try simp only [Act.put, List.getElem_toArray, List.getElem_cons_succ, List.getElem_cons_zero, List.setIfInBounds_toArray, List.set_cons_zero, List.set_cons_succ]
        refine wpAnyH_ready (rs := [1, 4]) (by kernel_rfl) (by simp) ?_
        refine AllReadyH.cons rfl (fun K hK => ?_) (AllReadyH.cons rfl (fun K hK => ?_) AllReadyH.nil)
        · have k0 := (HO3.out.gr ((Gr.refl w3 none).drew.alloc (.cells (#[.int .i64 1, .int .i64 5, .int .i64 0, .int .i64 4] : Array Value) 3)) (by simp)).1
          have k00 := HO3.out.1
          go_simp
          try dsimp only
          refine hK.out _ _ (hHeld) (fun hHeld => ?_)
          clear hK K
          try simp only [Act.put, List.getElem_toArray, List.getElem_cons_succ, List.getElem_cons_zero, List.setIfInBounds_toArray, List.set_cons_zero, List.set_cons_succ]
          refine wpAnyH_ready (rs := [4]) (by kernel_rfl) (by simp) ?_
          refine AllReadyH.cons rfl (fun K hK => ?_) AllReadyH.nil
          go_simp
          refine (num_any rb (P + 2) [1, 5, 0, 4] 4 rfl _ _ _ (hr3.gr0 ((Gr.refl _ none).drew.alloc _)) (by omega) (inAt_lit _ rb (by simp; omega) _ _ rfl _) (by omega) (by omega)).mono ?_
          rintro e w5 ⟨v5, hm5, rfl, hg5, hr5⟩
          have hgr5 := (Gr.refl w3 none).drew.alloc (.cells (#[.int .i64 1, .int .i64 5, .int .i64 0, .int .i64 4] : Array Value) 3)
          have HS5 := Lib.hid ((HS3.out.gr0 hgr5).gr hg5 (fun r e => by cases e; omega))
          have HL5 := Lib.hid ((HL3.out.gr hgr5).far hg5 (fun r e => by cases e; omega))
          have HO5 := Lib.hid ((HO3.out.gr hgr5 (by simp)).gr hg5 (by simp; omega))
          have HZ5 := Lib.hid ((HZ3.out.gr hgr5 (by simp)).gr hg5 (by simp; omega))
          have HB5 := Lib.hid ((hg5.block w1.heap.size (by simp; omega) (by simp; omega)).trans ((hgr5.block w1.heap.size (by omega) (by simp)).trans HB3.out))
          have hs5 : w3.heap.size < w5.heap.size := by have := hg5.size; simp at this; omega
          have HR5 := Lib.hid hr5
          clear hgr5 hm5 hr5
          try dsimp only
          refine hK.out _ _ (Gr.trans hHeld hg5 (fun r e => .inl e)) (fun hHeld => ?_)
          clear hK K
          try simp only [Act.put, List.getElem_toArray, List.getElem_cons_succ, List.getElem_cons_zero, List.setIfInBounds_toArray, List.set_cons_zero, List.set_cons_succ]
          refine wpAnyH_ready (rs := [5]) (by kernel_rfl) (by simp) ?_
          refine AllReadyH.cons rfl (fun K hK => ?_) AllReadyH.nil
          go_simp
          try dsimp only
          refine hK.out _ _ (Gr.alloc hHeld _) (fun hHeld => ?_)
          clear hK K
          try simp only [Act.put, List.getElem_toArray, List.getElem_cons_succ, List.getElem_cons_zero, List.setIfInBounds_toArray, List.set_cons_zero, List.set_cons_succ]
          refine wpAnyH_ready (rs := [6]) (by kernel_rfl) (by simp) ?_
          refine AllReadyH.cons rfl (fun K hK => ?_) AllReadyH.nil
          refine step_app_r w5 _ rfl (.tmp 65) (.tmp 69) 23 rfl 3 1 8 _ Try.underlying23 Qinfo rfl (by decide) (by decide) (w.heap.size + 2) (w.heap.size + 2) a1 c1 p.types.length (p.types.map fun x => [Value.int .i64 x]) [.int .i64 v5] rfl (lst_rows1 HL5.out) ((Gr.refl _ _).alloc _) w5.heap.size 1 rfl _ (heap1_0 _ _) rfl rfl (by intro u hu; simp at hu; subst hu; rfl) (by omega) (by omega) ?_
          rintro g6 cap6 w6 hL6 - hg6
          have HL6 := Lib.hid hL6
          have hga5 := (Gr.refl w5 none).alloc (.cells #[.int .i64 v5] 3)
          have HS6 := Lib.hid ((HS5.out.gr0 hga5).gr hg6 (fun r e => HDJ.out r e))
          have HO6 := Lib.hid ((HO5.out.gr hga5 (by simp)).gr hg6 (fun e => by have := (HA1.out _ e).2; omega))
          have HZ6 := Lib.hid ((HZ5.out.gr hga5 (by simp)).gr hg6 (fun e => by have := (HA1.out _ e).1; omega))
          have HB6 := Lib.hid ((hg6.block w1.heap.size (by simp; omega) (fun e => by have := (HA1.out _ e.symm).2; omega)).trans ((hga5.block w1.heap.size (by omega) (by simp)).trans HB5.out))
          have HR6 := Lib.hid ((HR5.out.gr0 hga5).far hg6 (fun r e => by have := (HA1.out r e).1; omega))
          clear hga5 hL6
          try dsimp only
          refine hK.out _ _ (Gr.trans hHeld hg6 (fun r e => .inr (by have := (HA1.out r e).1; omega))) (fun hHeld => ?_)
          clear hK K
          try simp only [Act.put, List.getElem_toArray, List.getElem_cons_succ, List.getElem_cons_zero, List.setIfInBounds_toArray, List.set_cons_zero, List.set_cons_succ]
          refine wpAnyH_take (i := 7) (v := ?_) rfl (by kernel_rfl) (by kernel_rfl) (by kernel_rfl) (fun _ _ _ h => h) (Or.inl ⟨by rfl, ?_⟩) hHeld ?_
          rotate_left
          focus (intro wq hq; clear hq; go_simp; try with_reducible rfl)
          simp only [Act.put, List.getElem_toArray, List.getElem_cons_succ, List.getElem_cons_zero, List.setIfInBounds_toArray, List.set_cons_zero, List.set_cons_succ]
          refine wpAnyH_ready (rs := [8]) (by kernel_rfl) (by simp) ?_
          refine AllReadyH.cons rfl (fun K hK => ?_) AllReadyH.nil
          have k0 := HO6.out.1
          have k1 := HO6.out.2.2 0
          go_simp
          skip
          try dsimp only
          refine hK.out _ _ (hHeld.setNew (by show w.heap.size ≤ w1.heap.size; omega) _) (fun hHeld => ?_)
          clear hK K
          try simp only [Act.put, List.getElem_toArray, List.getElem_cons_succ, List.getElem_cons_zero, List.setIfInBounds_toArray, List.set_cons_zero, List.set_cons_succ]
          refine wpAnyH_done (by kernel_rfl) ?_ _
          have hW : Gr w6 (w6.setCell ⟨w1.heap.size, 0, none⟩ (.slice (some ⟨g6, 0, none⟩) (p.types.length + 1) cap6)) (some w1.heap.size) := own_set _ _ _ _
          have HLW := Lib.hid ((lst_of_rows (l := p.types ++ [v5]) (by simpa using HL6.out)).offB (by simp) HB6.out hW)
          have HSW := Lib.hid (HS6.out.offB HB6.out hW)
          have hzW := HZ6.out.gr hW (by simp; omega)
          have HRW := Lib.hid (HR6.out.far hW (fun r e => by cases e; omega))
          have HGW := Lib.hid hHeld
          have o0W : (w6.setCell ⟨w1.heap.size, 0, none⟩ (.slice (some ⟨g6, 0, none⟩) (p.types.length + 1) cap6)).cell? ⟨w1.heap.size, 0, none⟩ = some (.slice (some ⟨g6, 0, none⟩) (p.types.length + 1) cap6) := World.cell?_setCell_same _ _ _ HO6.out.1
          have o1W : (w6.setCell ⟨w1.heap.size, 0, none⟩ (.slice (some ⟨g6, 0, none⟩) (p.types.length + 1) cap6)).cell? ⟨w1.heap.size, 1, none⟩ = some (.slice (some ⟨g, 0, none⟩) p.body.length d1) := by rw [World.cell?_setCell_other _ _ _ _ (by simp)]; exact HO6.out.2.1
          have HZW := Lib.hid hzW
          clear hW
          obtain ⟨W, hWW⟩ : ∃ W : World, W = w6.setCell ⟨w1.heap.size, 0, none⟩ (.slice (some ⟨g6, 0, none⟩) (p.types.length + 1) cap6) := ⟨_, rfl⟩
          rw [← hWW] at hzW o0W o1W HLW HZW HRW HGW HSW ⊢
          clear hWW
          obtain ⟨z0, z1, zf⟩ := hzW
          go_wp2_with fail
          (try simp only [Exit.inBlock, Exit.then])
          refine mut_ret (b := w.heap.size + 1) HZW.out rfl ?_
          exact mut_end (p' := ⟨p.types ++ [v5], p.body⟩) hrb (by show Lst W _ _ _ _ (p.types ++ [v5]).length _; rw [List.length_append]; exact HLW.out) hmid HSW.out HGW.out (HRW.out.mono (by omega)) (by show (p.types ++ [v5]).length ≤ 7; rw [List.length_append]; simp; omega) (by show St.count p.body ≤ 4000; omega) (by show _ = Value.slice _ (p.types ++ [v5]).length _; rw [List.length_append]; rfl) rfl
        · go_simp
          refine (num_any rb (P + 2) [1, 5, 0, 4] 4 rfl _ _ _ (hr3.gr0 ((Gr.refl _ none).drew.alloc _)) (by omega) (inAt_lit _ rb (by simp; omega) _ _ rfl _) (by omega) (by omega)).mono ?_
          rintro e w5 ⟨v5, hm5, rfl, hg5, hr5⟩
          have hgr5 := (Gr.refl w3 none).drew.alloc (.cells (#[.int .i64 1, .int .i64 5, .int .i64 0, .int .i64 4] : Array Value) 3)
          have HS5 := Lib.hid ((HS3.out.gr0 hgr5).gr hg5 (fun r e => by cases e; omega))
          have HL5 := Lib.hid ((HL3.out.gr hgr5).far hg5 (fun r e => by cases e; omega))
          have HO5 := Lib.hid ((HO3.out.gr hgr5 (by simp)).gr hg5 (by simp; omega))
          have HZ5 := Lib.hid ((HZ3.out.gr hgr5 (by simp)).gr hg5 (by simp; omega))
          have HB5 := Lib.hid ((hg5.block w1.heap.size (by simp; omega) (by simp; omega)).trans ((hgr5.block w1.heap.size (by omega) (by simp)).trans HB3.out))
          have hs5 : w3.heap.size < w5.heap.size := by have := hg5.size; simp at this; omega
          have HR5 := Lib.hid hr5
          clear hgr5 hm5 hr5
          try dsimp only
          refine hK.out _ _ (Gr.trans hHeld hg5 (fun r e => .inl e)) (fun hHeld => ?_)
          clear hK K
          try simp only [Act.put, List.getElem_toArray, List.getElem_cons_succ, List.getElem_cons_zero, List.setIfInBounds_toArray, List.set_cons_zero, List.set_cons_succ]
          refine wpAnyH_ready (rs := [1, 5]) (by kernel_rfl) (by simp) ?_
          refine AllReadyH.cons rfl (fun K hK => ?_) (AllReadyH.cons rfl (fun K hK => ?_) AllReadyH.nil)
          · have k0 := HO5.out.1
            have k00 := HO5.out.1
            go_simp
            try dsimp only
            refine hK.out _ _ (hHeld) (fun hHeld => ?_)
            clear hK K
            try simp only [Act.put, List.getElem_toArray, List.getElem_cons_succ, List.getElem_cons_zero, List.setIfInBounds_toArray, List.set_cons_zero, List.set_cons_succ]
            refine wpAnyH_ready (rs := [5]) (by kernel_rfl) (by simp) ?_
            refine AllReadyH.cons rfl (fun K hK => ?_) AllReadyH.nil
            go_simp
            try dsimp only
            refine hK.out _ _ (Gr.alloc hHeld _) (fun hHeld => ?_)
            clear hK K
            try simp only [Act.put, List.getElem_toArray, List.getElem_cons_succ, List.getElem_cons_zero, List.setIfInBounds_toArray, List.set_cons_zero, List.set_cons_succ]
            refine wpAnyH_ready (rs := [6]) (by kernel_rfl) (by simp) ?_
            refine AllReadyH.cons rfl (fun K hK => ?_) AllReadyH.nil
            refine step_app_r w5 _ rfl (.tmp 65) (.tmp 69) 23 rfl 3 1 8 _ Try.underlying23 Qinfo rfl (by decide) (by decide) (w.heap.size + 2) (w.heap.size + 2) a1 c1 p.types.length (p.types.map fun x => [Value.int .i64 x]) [.int .i64 v5] rfl (lst_rows1 HL5.out) ((Gr.refl _ _).alloc _) w5.heap.size 1 rfl _ (heap1_0 _ _) rfl rfl (by intro u hu; simp at hu; subst hu; rfl) (by omega) (by omega) ?_
            rintro g6 cap6 w6 hL6 - hg6
            have HL6 := Lib.hid hL6
            have hga5 := (Gr.refl w5 none).alloc (.cells #[.int .i64 v5] 3)
            have HS6 := Lib.hid ((HS5.out.gr0 hga5).gr hg6 (fun r e => HDJ.out r e))
            have HO6 := Lib.hid ((HO5.out.gr hga5 (by simp)).gr hg6 (fun e => by have := (HA1.out _ e).2; omega))
            have HZ6 := Lib.hid ((HZ5.out.gr hga5 (by simp)).gr hg6 (fun e => by have := (HA1.out _ e).1; omega))
            have HB6 := Lib.hid ((hg6.block w1.heap.size (by simp; omega) (fun e => by have := (HA1.out _ e.symm).2; omega)).trans ((hga5.block w1.heap.size (by omega) (by simp)).trans HB5.out))
            have HR6 := Lib.hid ((HR5.out.gr0 hga5).far hg6 (fun r e => by have := (HA1.out r e).1; omega))
            clear hga5 hL6
            try dsimp only
            refine hK.out _ _ (Gr.trans hHeld hg6 (fun r e => .inr (by have := (HA1.out r e).1; omega))) (fun hHeld => ?_)
            clear hK K
            try simp only [Act.put, List.getElem_toArray, List.getElem_cons_succ, List.getElem_cons_zero, List.setIfInBounds_toArray, List.set_cons_zero, List.set_cons_succ]
            refine wpAnyH_take (i := 7) (v := ?_) rfl (by kernel_rfl) (by kernel_rfl) (by kernel_rfl) (fun _ _ _ h => h) (Or.inl ⟨by rfl, ?_⟩) hHeld ?_
            rotate_left
            focus (intro wq hq; clear hq; go_simp; try with_reducible rfl)
            simp only [Act.put, List.getElem_toArray, List.getElem_cons_succ, List.getElem_cons_zero, List.setIfInBounds_toArray, List.set_cons_zero, List.set_cons_succ]
            refine wpAnyH_ready (rs := [8]) (by kernel_rfl) (by simp) ?_
            refine AllReadyH.cons rfl (fun K hK => ?_) AllReadyH.nil
            have k0 := HO6.out.1
            have k1 := HO6.out.2.2 0
            go_simp
            skip
            try dsimp only
            refine hK.out _ _ (hHeld.setNew (by show w.heap.size ≤ w1.heap.size; omega) _) (fun hHeld => ?_)
            clear hK K
            try simp only [Act.put, List.getElem_toArray, List.getElem_cons_succ, List.getElem_cons_zero, List.setIfInBounds_toArray, List.set_cons_zero, List.set_cons_succ]
            refine wpAnyH_done (by kernel_rfl) ?_ _
            have hW : Gr w6 (w6.setCell ⟨w1.heap.size, 0, none⟩ (.slice (some ⟨g6, 0, none⟩) (p.types.length + 1) cap6)) (some w1.heap.size) := own_set _ _ _ _
            have HLW := Lib.hid ((lst_of_rows (l := p.types ++ [v5]) (by simpa using HL6.out)).offB (by simp) HB6.out hW)
            have HSW := Lib.hid (HS6.out.offB HB6.out hW)
            have hzW := HZ6.out.gr hW (by simp; omega)
            have HRW := Lib.hid (HR6.out.far hW (fun r e => by cases e; omega))
            have HGW := Lib.hid hHeld
            have o0W : (w6.setCell ⟨w1.heap.size, 0, none⟩ (.slice (some ⟨g6, 0, none⟩) (p.types.length + 1) cap6)).cell? ⟨w1.heap.size, 0, none⟩ = some (.slice (some ⟨g6, 0, none⟩) (p.types.length + 1) cap6) := World.cell?_setCell_same _ _ _ HO6.out.1
            have o1W : (w6.setCell ⟨w1.heap.size, 0, none⟩ (.slice (some ⟨g6, 0, none⟩) (p.types.length + 1) cap6)).cell? ⟨w1.heap.size, 1, none⟩ = some (.slice (some ⟨g, 0, none⟩) p.body.length d1) := by rw [World.cell?_setCell_other _ _ _ _ (by simp)]; exact HO6.out.2.1
            have HZW := Lib.hid hzW
            clear hW
            obtain ⟨W, hWW⟩ : ∃ W : World, W = w6.setCell ⟨w1.heap.size, 0, none⟩ (.slice (some ⟨g6, 0, none⟩) (p.types.length + 1) cap6) := ⟨_, rfl⟩
            rw [← hWW] at hzW o0W o1W HLW HZW HRW HGW HSW ⊢
            clear hWW
            obtain ⟨z0, z1, zf⟩ := hzW
            go_wp2_with fail
            (try simp only [Exit.inBlock, Exit.then])
            refine mut_ret (b := w.heap.size + 1) HZW.out rfl ?_
            exact mut_end (p' := ⟨p.types ++ [v5], p.body⟩) hrb (by show Lst W _ _ _ _ (p.types ++ [v5]).length _; rw [List.length_append]; exact HLW.out) hmid HSW.out HGW.out (HRW.out.mono (by omega)) (by show (p.types ++ [v5]).length ≤ 7; rw [List.length_append]; simp; omega) (by show St.count p.body ≤ 4000; omega) (by show _ = Value.slice _ (p.types ++ [v5]).length _; rw [List.length_append]; rfl) rfl
          · go_simp
            try dsimp only
            refine hK.out _ _ (Gr.alloc hHeld _) (fun hHeld => ?_)
            clear hK K
            try simp only [Act.put, List.getElem_toArray, List.getElem_cons_succ, List.getElem_cons_zero, List.setIfInBounds_toArray, List.set_cons_zero, List.set_cons_succ]
            refine wpAnyH_ready (rs := [1]) (by kernel_rfl) (by simp) ?_
            refine AllReadyH.cons rfl (fun K hK => ?_) AllReadyH.nil
            have k0 := (HO5.out.gr ((Gr.refl w5 none).alloc (.cells #[.int .i64 v5] 3)) (by simp)).1
            have k00 := HO5.out.1
            go_simp
            try dsimp only
            refine hK.out _ _ (hHeld) (fun hHeld => ?_)
            clear hK K
            try simp only [Act.put, List.getElem_toArray, List.getElem_cons_succ, List.getElem_cons_zero, List.setIfInBounds_toArray, List.set_cons_zero, List.set_cons_succ]
            refine wpAnyH_ready (rs := [6]) (by kernel_rfl) (by simp) ?_
            refine AllReadyH.cons rfl (fun K hK => ?_) AllReadyH.nil
            refine step_app_r w5 _ rfl (.tmp 65) (.tmp 69) 23 rfl 3 1 8 _ Try.underlying23 Qinfo rfl (by decide) (by decide) (w.heap.size + 2) (w.heap.size + 2) a1 c1 p.types.length (p.types.map fun x => [Value.int .i64 x]) [.int .i64 v5] rfl (lst_rows1 HL5.out) ((Gr.refl _ _).alloc _) w5.heap.size 1 rfl _ (heap1_0 _ _) rfl rfl (by intro u hu; simp at hu; subst hu; rfl) (by omega) (by omega) ?_
            rintro g6 cap6 w6 hL6 - hg6
            have HL6 := Lib.hid hL6
            have hga5 := (Gr.refl w5 none).alloc (.cells #[.int .i64 v5] 3)
            have HS6 := Lib.hid ((HS5.out.gr0 hga5).gr hg6 (fun r e => HDJ.out r e))
            have HO6 := Lib.hid ((HO5.out.gr hga5 (by simp)).gr hg6 (fun e => by have := (HA1.out _ e).2; omega))
            have HZ6 := Lib.hid ((HZ5.out.gr hga5 (by simp)).gr hg6 (fun e => by have := (HA1.out _ e).1; omega))
            have HB6 := Lib.hid ((hg6.block w1.heap.size (by simp; omega) (fun e => by have := (HA1.out _ e.symm).2; omega)).trans ((hga5.block w1.heap.size (by omega) (by simp)).trans HB5.out))
            have HR6 := Lib.hid ((HR5.out.gr0 hga5).far hg6 (fun r e => by have := (HA1.out r e).1; omega))
            clear hga5 hL6
            try dsimp only
            refine hK.out _ _ (Gr.trans hHeld hg6 (fun r e => .inr (by have := (HA1.out r e).1; omega))) (fun hHeld => ?_)
            clear hK K
            try simp only [Act.put, List.getElem_toArray, List.getElem_cons_succ, List.getElem_cons_zero, List.setIfInBounds_toArray, List.set_cons_zero, List.set_cons_succ]
            refine wpAnyH_take (i := 7) (v := ?_) rfl (by kernel_rfl) (by kernel_rfl) (by kernel_rfl) (fun _ _ _ h => h) (Or.inl ⟨by rfl, ?_⟩) hHeld ?_
            rotate_left
            focus (intro wq hq; clear hq; go_simp; try with_reducible rfl)
            simp only [Act.put, List.getElem_toArray, List.getElem_cons_succ, List.getElem_cons_zero, List.setIfInBounds_toArray, List.set_cons_zero, List.set_cons_succ]
            refine wpAnyH_ready (rs := [8]) (by kernel_rfl) (by simp) ?_
            refine AllReadyH.cons rfl (fun K hK => ?_) AllReadyH.nil
            have k0 := HO6.out.1
            have k1 := HO6.out.2.2 0
            go_simp
            skip
            try dsimp only
            refine hK.out _ _ (hHeld.setNew (by show w.heap.size ≤ w1.heap.size; omega) _) (fun hHeld => ?_)
            clear hK K
            try simp only [Act.put, List.getElem_toArray, List.getElem_cons_succ, List.getElem_cons_zero, List.setIfInBounds_toArray, List.set_cons_zero, List.set_cons_succ]
            refine wpAnyH_done (by kernel_rfl) ?_ _
            have hW : Gr w6 (w6.setCell ⟨w1.heap.size, 0, none⟩ (.slice (some ⟨g6, 0, none⟩) (p.types.length + 1) cap6)) (some w1.heap.size) := own_set _ _ _ _
            have HLW := Lib.hid ((lst_of_rows (l := p.types ++ [v5]) (by simpa using HL6.out)).offB (by simp) HB6.out hW)
            have HSW := Lib.hid (HS6.out.offB HB6.out hW)
            have hzW := HZ6.out.gr hW (by simp; omega)
            have HRW := Lib.hid (HR6.out.far hW (fun r e => by cases e; omega))
            have HGW := Lib.hid hHeld
            have o0W : (w6.setCell ⟨w1.heap.size, 0, none⟩ (.slice (some ⟨g6, 0, none⟩) (p.types.length + 1) cap6)).cell? ⟨w1.heap.size, 0, none⟩ = some (.slice (some ⟨g6, 0, none⟩) (p.types.length + 1) cap6) := World.cell?_setCell_same _ _ _ HO6.out.1
            have o1W : (w6.setCell ⟨w1.heap.size, 0, none⟩ (.slice (some ⟨g6, 0, none⟩) (p.types.length + 1) cap6)).cell? ⟨w1.heap.size, 1, none⟩ = some (.slice (some ⟨g, 0, none⟩) p.body.length d1) := by rw [World.cell?_setCell_other _ _ _ _ (by simp)]; exact HO6.out.2.1
            have HZW := Lib.hid hzW
            clear hW
            obtain ⟨W, hWW⟩ : ∃ W : World, W = w6.setCell ⟨w1.heap.size, 0, none⟩ (.slice (some ⟨g6, 0, none⟩) (p.types.length + 1) cap6) := ⟨_, rfl⟩
            rw [← hWW] at hzW o0W o1W HLW HZW HRW HGW HSW ⊢
            clear hWW
            obtain ⟨z0, z1, zf⟩ := hzW
            go_wp2_with fail
            (try simp only [Exit.inBlock, Exit.then])
            refine mut_ret (b := w.heap.size + 1) HZW.out rfl ?_
            exact mut_end (p' := ⟨p.types ++ [v5], p.body⟩) hrb (by show Lst W _ _ _ _ (p.types ++ [v5]).length _; rw [List.length_append]; exact HLW.out) hmid HSW.out HGW.out (HRW.out.mono (by omega)) (by show (p.types ++ [v5]).length ≤ 7; rw [List.length_append]; simp; omega) (by show St.count p.body ≤ 4000; omega) (by show _ = Value.slice _ (p.types ++ [v5]).length _; rw [List.length_append]; rfl) rfl
    · have hM0 : Mu w w3 rb (P + 1 + 1) w1.heap.size mid p.types a1 c1 p.body g d1 p.body.length := ⟨rfl, HB3.out, HS3.out, HL3.out, HZ3.out, HG3.out, hr3⟩
      have hin0 : ∀ h : 0 < p.body.length, 1 + (p.body[0]).inner ≤ 105 := fun h => by have := count_get h; omega
      have HIN0 := Lib.hid hin0
      have HM0 := Lib.hid hM0
      have hb3 : w1.heap.size < w3.heap.size := HO3.out.lt
      have HA := Lib.hid (show ∀ r, ob a1 = some r → r < mid ∧ r < w1.heap.size from fun r e => ⟨HDJ.out r e, (HA1.out r e).2⟩)
      clear hin0 hM0 hr3 HL3 HS3 HG3 HZ3 HO3 HB3
      go_wp2_with fail
      go_loopw [7] (fun i wr => ∃ (j : Nat) (B : List St) (gB cB m : Nat), i = .int .i64 j ∧ j ≤ 31 ∧ m = p.body.length + j ∧ Mu w wr rb (P + 1 + 1) w1.heap.size mid p.types a1 c1 B gB cB m ∧ St.count B ≤ 105 * (j + 1) ∧ (∀ h : 0 < B.length, 1 + (B[0]).inner ≤ 105) ∧ w1.heap.size < wr.heap.size) (fun i _ => 31 - (intOf i).toNat)
      case atStart => exact ⟨0, p.body, g, d1, p.body.length, rfl, by omega, rfl, HM0.out, by omega, HIN0.out, hb3⟩
      case round =>
        clear HM0 HIN0
        obtain ⟨j, B, gB, cB, m, rfl, hj, hm, hMu, hcB, hin, hbr⟩ := hrel
        have HM := Lib.hid hMu
        have HC := Lib.hid hcB
        have HI := Lib.hid hin
        have HMM := Lib.hid hm
        have hm200 : m ≤ 200 := by omega
        obtain ⟨hBl, hBb, hBs, -, hBz, -, -⟩ := hMu
        have HBL := Lib.hid hBl
        have HBS := Lib.hid hBs
        have b0 : wr.cell? ⟨w1.heap.size, 0, none⟩ = some (.slice a1 p.types.length c1) := cell_of_row _ _ _ _ _ _ hBb
        have b1 : wr.cell? ⟨w1.heap.size, 1, none⟩ = some (.slice (some ⟨gB, 0, none⟩) m cB) := cell_of_row _ _ _ _ _ _ hBb
        have hmpos : 0 < m := by omega
        by_cases hlt : j < 31
        · have hji : (j : Int) ≤ 30 := by omega
          have hmi : (0 : Int) < (m : Int) := by omega
          have hB0 : 0 < B.length := by omega
          obtain ⟨s0, es0⟩ : ∃ s0, B[0] = s0 := ⟨_, rfl⟩
          obtain ⟨r, hrow, hcell⟩ := hBs.cell hB0
          rw [es0] at hrow
          have hin0 := hin hB0
          rw [es0] at hin0
          have HIN := Lib.hid hin0
          have HE0 := Lib.hid es0
          have hrow' := hrow
          obtain ⟨q1, q2, at0, ct0, ae0, ce0, rfl, q3, q4⟩ := hrow
          have x0 : wr.cell? ⟨gB, 0, none⟩ = some (.int .i64 s0.op) := by simpa using hcell 0 _ rfl
          have x1 : wr.cell? ⟨gB, 1, none⟩ = some (.int .i64 s0.x) := by simpa using hcell 1 _ rfl
          have x2 : wr.cell? ⟨gB, 2, none⟩ = some (.int .i64 s0.y) := by simpa using hcell 2 _ rfl
          have x3 : wr.cell? ⟨gB, 3, none⟩ = some (.int .i64 s0.n) := by simpa using hcell 3 _ rfl
          have x4 : wr.cell? ⟨gB, 4, none⟩ = some (.slice at0 s0.thn.length ct0) := by simpa using hcell 4 _ rfl
          have x5 : wr.cell? ⟨gB, 5, none⟩ = some (.slice ae0 s0.els.length ce0) := by simpa using hcell 5 _ rfl
          have HROW := Lib.hid hrow'
          have hmw : mid ≤ wr.heap.size := by have := (hBs.own gB rfl); omega
          clear q1 q2 q3 q4 hcell hrow' hin hin0 hBl hBs hBb es0 hcB hm hBz
          go_upto_region 20 with fail
          go_region_law (refine step_app_st (wr.drew.alloc (.cells #[.int .i64 s0.op, .int .i64 s0.x, .int .i64 s0.y, .int .i64 s0.n, .slice at0 s0.thn.length ct0, .slice ae0 s0.els.length ce0] 96)) rfl (.tmp 79) (.tmp 84) rfl mid gB cB m 1 B [s0] HBL.out (HBS.out.gr0 ((Gr.refl wr none).drew.alloc _)) rfl [[.int .i64 s0.op, .int .i64 s0.x, .int .i64 s0.y, .int .i64 s0.n, .slice at0 s0.thn.length ct0, .slice ae0 s0.els.length ce0]] rfl (fun i hi => by obtain rfl : i = 0 := (by simp at hi; omega); exact HROW.out.gr0 ((Gr.refl wr none).drew.alloc _)) ⟨wr.heap.size, 0, none⟩ _ (by simpa using row_cells (w := wr.drew.alloc (.cells #[.int .i64 s0.op, .int .i64 s0.x, .int .i64 s0.y, .int .i64 s0.n, .slice at0 s0.thn.length ct0, .slice ae0 s0.els.length ce0] 96)) (heap1_0 wr.drew _)) (by omega) (by simp; omega) (by omega) rfl rfl ?_; rintro g6 cap6 w6 hS6 hg6; obtain ⟨⟨y0, y1, yf⟩, hMu6⟩ := HM.out.step hS6 hg6 hrb hmid HA.out hbr (by omega))
          all_goals
            go_wp2_with fail
            go_roundw
            case rel => exact ⟨j + 1, B ++ [s0], g6, cap6, m + 1, by go_num, by omega, by have := HMM.out; omega, hMu6, by have := HC.out; have := HIN.out; rw [count_app, count_one]; omega, fun h => by rw [List.getElem_append_left hB0, HE0.out]; exact HIN.out, by have := hg6.size; simp at this; simp [World.setCell]; omega⟩
            case measure => simp [intOf]; omega
        · obtain rfl : j = 31 := by omega
          obtain ⟨z0, z1, zf⟩ := hBz
          clear hBl hBs hBb hin hcB hm
          go_wp2_with fail
          (try simp only [Exit.inBlock, Exit.then])
          obtain ⟨hBl, hBb, hBs, hBL, hBz, hBG, hBR⟩ := HM.out
          refine mut_ret (b := w.heap.size + 1) hBz rfl ?_
          exact mut_end (p' := ⟨p.types, B⟩) hrb hBL hmid hBs hBG (hBR.mono (by omega)) (by show p.types.length ≤ 7; omega) (by show St.count B ≤ 4000; have := HC.out; omega) rfl (by show _ = Value.slice _ B.length _; rw [hBl])
    · obtain ⟨rM, hrl, hrM, hcM, hcap⟩ := HS3.out.behind (k + 1)
      have hTk := HS3.out.take k (by omega)
      have HTK := Lib.hid hTk
      have HRM := Lib.hid hrM
      have HCM := Lib.hid hcM

      have hkc : (k : Int) ≤ (d1 : Int) := by omega
      have hwr : IntKind.i64.wrap ((k : Int) + 1) = ((k + 1 : Nat) : Int) := by rw [show (k : Int) + 1 = ((k + 1 : Nat) : Int) from by omega]; exact IntWalk.i64_in _ (by omega)
      have hk1 : ((k + 1 : Nat) : Int) ≤ (p.body.length : Int) := by omega
      have hk0 : (0 : Int) ≤ ((k + 1 : Nat) : Int) := by omega
      have hkn : k + 1 ≤ p.body.length := by omega
      have hk1a : (k : Int) + 1 ≤ (p.body.length : Int) := by omega
      have hk0a : (0 : Int) ≤ (k : Int) + 1 := by omega
      have hkka : (k : Int) ≤ (k : Int) + 1 := by omega
      have hlA : w1.heap.size < w3.heap.size := HO3.out.lt
      obtain ⟨o0, o1, of⟩ := HO3.out
      have of1 := of 1
      have hmw3 : mid ≤ w3.heap.size := by have := hgb.1; omega
      clear hTk hrM hcM of
      go_upto_region 22 with fail
      by_cases hd : d1 = k + 1
      · have hm0 : p.body.length - (k + 1) = 0 := by omega
        have HM0 := Lib.hid hm0
        subst hd
        clear hm0
        have hl2 : p.body.length = k + 1 := by omega
        go_region_law (refine step_app_st w3.drew rfl (.tmp 92) (.tmp 97) rfl mid g (k + 1) k 0 (p.body.take k) [] (by rw [List.length_take]; omega) (HTK.out.gr0 (Gr.refl w3 none).drew) rfl [] rfl (fun i hi => absurd hi (by simp)) ⟨g, 0, none⟩ _ (fun j u hu => by simp at hu) (by omega) hmw3 (by omega) rfl rfl ?_; rw [List.append_nil]; rintro g6 cap6 w6 hS6 hg6; have y1 := hg6.cell ((Gr.refl w3 none).drew.cell o1 (by simp)) (by simp; omega); have yf := (hg6.frozen (p := ⟨w1.heap.size, 1, none⟩) (by simp; omega) (by simp; omega)).trans of1)
        all_goals
          have hgd : Gr w3 w3.drew none := (Gr.refl w3 none).drew
          have hW : Gr w6 (w6.setCell ⟨w1.heap.size, 1, none⟩ (.slice (some ⟨g6, 0, none⟩) k cap6)) (some w1.heap.size) := own_set _ _ _ _
          have HB6 := Lib.hid ((hg6.block w1.heap.size (by simp; omega) (by simp; omega)).trans HB3.out)
          have HSW := Lib.hid (hS6.offB HB6.out hW)
          have HLW := Lib.hid (((HL3.out.gr hgd).off hg6 (fun r e => by cases e; exact HNE.out)).off hW (fun r e => by cases e; exact fun h => by have := (HA1.out _ h).2; omega))
          have hzW := ((HZ3.out.gr hgd (by simp)).gr hg6 (by simp; omega)).gr hW (by simp; omega)
          have HRW := Lib.hid (((hr3.gr0 hgd).far hg6 (fun r e => by cases e; omega)).far hW (fun r e => by cases e; omega))
          have HGW := Lib.hid ((HG3.out.drew.trans hg6 (fun r e => .inr (by cases e; omega))).setNew (p := ⟨w1.heap.size, 1, none⟩) (by show w.heap.size ≤ w1.heap.size; omega) (.slice (some ⟨g6, 0, none⟩) k cap6))
          have o0W : (w6.setCell ⟨w1.heap.size, 1, none⟩ (.slice (some ⟨g6, 0, none⟩) k cap6)).cell? ⟨w1.heap.size, 0, none⟩ = some (.slice a1 p.types.length c1) := by rw [World.cell?_setCell_other _ _ _ _ (by simp)]; exact hg6.cell (hgd.cell o0 (by simp)) (by simp; omega)
          have o1W : (w6.setCell ⟨w1.heap.size, 1, none⟩ (.slice (some ⟨g6, 0, none⟩) k cap6)).cell? ⟨w1.heap.size, 1, none⟩ = some (.slice (some ⟨g6, 0, none⟩) k cap6) := World.cell?_setCell_same _ _ _ y1
          have HZW := Lib.hid hzW
          have HBL := Lib.hid (show (p.body.take k).length = k from by rw [List.length_take]; omega)
          clear hW hg6 hS6 y1 yf
          obtain ⟨W, hWW⟩ : ∃ W : World, W = w6.setCell ⟨w1.heap.size, 1, none⟩ (.slice (some ⟨g6, 0, none⟩) k cap6) := ⟨_, rfl⟩
          rw [← hWW] at hzW o0W o1W HLW HZW HRW HGW HSW ⊢
          clear hWW
          obtain ⟨z0, z1, zf⟩ := hzW
          go_wp2_with fail
          (try simp only [Exit.inBlock, Exit.then])
          refine mut_ret (b := w.heap.size + 1) HZW.out rfl ?_
          exact mut_end (p' := ⟨p.types, (p.body.take k)⟩) hrb HLW.out hmid HSW.out HGW.out (HRW.out.mono (by omega)) (by show p.types.length ≤ 7; omega) (by show St.count (p.body.take k) ≤ 4000; have := count_take_le p.body k; omega) rfl (by show _ = Value.slice _ (p.body.take k).length _; rw [HBL.out])
      · have HD := Lib.hid hd
        go_region_law (refine step_app_st w3.drew rfl (.tmp 92) (.tmp 97) rfl mid g d1 k (p.body.length - (k + 1)) (p.body.take k) (p.body.drop (k + 1)) (by rw [List.length_take]; omega) (HTK.out.gr0 (Gr.refl w3 none).drew) (by rw [List.length_drop]) rM hrl (fun i hi => (HRM.out i hi).gr0 (Gr.refl w3 none).drew) ⟨g, (k + 1) * 6, none⟩ _ (fun j u hu => (Gr.refl w3 none).drew.cell (HCM.out j u hu) (by simp)) (by omega) hmw3 (by omega) rfl rfl ?_; rintro g6 cap6 w6 hS6 hg6; have y1 := hg6.cell ((Gr.refl w3 none).drew.cell o1 (by simp)) (by simp; omega); have yf := (hg6.frozen (p := ⟨w1.heap.size, 1, none⟩) (by simp; omega) (by simp; omega)).trans of1)
        all_goals
          have hgd : Gr w3 w3.drew none := (Gr.refl w3 none).drew
          have hW : Gr w6 (w6.setCell ⟨w1.heap.size, 1, none⟩ (.slice (some ⟨g6, 0, none⟩) (k + (p.body.length - (k + 1))) cap6)) (some w1.heap.size) := own_set _ _ _ _
          have HB6 := Lib.hid ((hg6.block w1.heap.size (by simp; omega) (by simp; omega)).trans HB3.out)
          have HSW := Lib.hid (hS6.offB HB6.out hW)
          have HLW := Lib.hid (((HL3.out.gr hgd).off hg6 (fun r e => by cases e; exact HNE.out)).off hW (fun r e => by cases e; exact fun h => by have := (HA1.out _ h).2; omega))
          have hzW := ((HZ3.out.gr hgd (by simp)).gr hg6 (by simp; omega)).gr hW (by simp; omega)
          have HRW := Lib.hid (((hr3.gr0 hgd).far hg6 (fun r e => by cases e; omega)).far hW (fun r e => by cases e; omega))
          have HGW := Lib.hid ((HG3.out.drew.trans hg6 (fun r e => .inr (by cases e; omega))).setNew (p := ⟨w1.heap.size, 1, none⟩) (by show w.heap.size ≤ w1.heap.size; omega) (.slice (some ⟨g6, 0, none⟩) (k + (p.body.length - (k + 1))) cap6))
          have o0W : (w6.setCell ⟨w1.heap.size, 1, none⟩ (.slice (some ⟨g6, 0, none⟩) (k + (p.body.length - (k + 1))) cap6)).cell? ⟨w1.heap.size, 0, none⟩ = some (.slice a1 p.types.length c1) := by rw [World.cell?_setCell_other _ _ _ _ (by simp)]; exact hg6.cell (hgd.cell o0 (by simp)) (by simp; omega)
          have o1W : (w6.setCell ⟨w1.heap.size, 1, none⟩ (.slice (some ⟨g6, 0, none⟩) (k + (p.body.length - (k + 1))) cap6)).cell? ⟨w1.heap.size, 1, none⟩ = some (.slice (some ⟨g6, 0, none⟩) (k + (p.body.length - (k + 1))) cap6) := World.cell?_setCell_same _ _ _ y1
          have HZW := Lib.hid hzW
          have HBL := Lib.hid (show (p.body.take k ++ p.body.drop (k + 1)).length = (k + (p.body.length - (k + 1))) from by rw [List.length_append, List.length_take, List.length_drop]; omega)
          clear hW hg6 hS6 y1 yf
          obtain ⟨W, hWW⟩ : ∃ W : World, W = w6.setCell ⟨w1.heap.size, 1, none⟩ (.slice (some ⟨g6, 0, none⟩) (k + (p.body.length - (k + 1))) cap6) := ⟨_, rfl⟩
          rw [← hWW] at hzW o0W o1W HLW HZW HRW HGW HSW ⊢
          clear hWW
          obtain ⟨z0, z1, zf⟩ := hzW
          go_wp2_with fail
          (try simp only [Exit.inBlock, Exit.then])
          refine mut_ret (b := w.heap.size + 1) HZW.out rfl ?_
          exact mut_end (p' := ⟨p.types, (p.body.take k ++ p.body.drop (k + 1))⟩) hrb HLW.out hmid HSW.out HGW.out (HRW.out.mono (by omega)) (by show p.types.length ≤ 7; omega) (by show St.count (p.body.take k ++ p.body.drop (k + 1)) ≤ 4000; have := count_cut p.body hk; omega) rfl (by show _ = Value.slice _ (p.body.take k ++ p.body.drop (k + 1)).length _; rw [HBL.out])
    · have n0 : ¬ v2 = 0 := by omega
      have n1 : ¬ v2 = 1 := by omega
      have n2 : ¬ v2 = 2 := by omega
      have n3 : ¬ v2 = 3 := by omega
      have n4 : ¬ v2 = 4 := by omega
      have n5 : ¬ v2 = 5 := by omega
      have n6 : ¬ v2 = 6 := by omega
      obtain ⟨z0, z1, zf⟩ := HZ3.out
      obtain ⟨o0, o1, of⟩ := HO3.out
      go_wp2_with fail
      (try simp only [Exit.inBlock, Exit.then])
      refine mut_ret (b := w.heap.size + 1) HZ3.out rfl ?_
      exact mut_end (p' := p) hrb HL3.out hmid HS3.out HG3.out (hr3.mono (by omega)) (by omega) (by omega) rfl rfl
theorem l1Mutate_any (rb P : Nat) (p : Pr) (at' ab : Option Addr) (ct cb : Nat) (w : World) (hR : Rd w rb P) (hP : P ≤ 9000) (hT : InAt w Any p.types at') (hB : SlAt w Any p.body ab) (hs : p.types.length ≤ 6) (hc : St.count p.body ≤ 105) :
    Calls Try.prog 79 #[.pointer (some ⟨rb, 0, none⟩), .agg #[.slice at' p.types.length ct, .slice ab p.body.length cb]] w (DrawR rb P 3 7 4000 w) :=
  (l1Mutate_cap rb P p at' ab ct cb w hR hP hT hB hs hc).mono fun _ _ ⟨p, a, b, c, d, h0, h1, h2, h3, h4, h5, h6, _⟩ => ⟨p, a, b, c, d, h0, h1, h2, h3, h4, h5, h6⟩
end Go.Proofs.Ytadidppbhpdnkaa
