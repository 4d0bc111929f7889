/- Walks of copies of statements: the same statements, in new memory of the call's own. -/
/- Run laws of the lists that a copied program holds: append, a store, a copy of ints. No walk stands here. -/
/- The walk of a program's copy: the same program, in new memory of the call's own. -/
import Derived.Test.YtadidppbhpdnkaaB10

namespace Go.Proofs.Ytadidppbhpdnkaa

open Go.RowKit

/-- Six cells of a block that may be written. -/
def Z6 (w : World) (b : Nat) (v0 v1 v2 v3 v4 v5 : Value) : Prop := w.cell? ⟨b, 0, none⟩ = some v0 ∧ w.cell? ⟨b, 1, none⟩ = some v1 ∧ w.cell? ⟨b, 2, none⟩ = some v2 ∧ w.cell? ⟨b, 3, none⟩ = some v3 ∧ w.cell? ⟨b, 4, none⟩ = some v4 ∧ w.cell? ⟨b, 5, none⟩ = some v5 ∧ ∀ o, w.frozen? ⟨b, o, none⟩ = false
theorem Z6.new (w : World) (v0 v1 v2 v3 v4 v5 : Value) (t : TypeId) : Z6 (w.alloc (.cells #[v0, v1, v2, v3, v4, v5] t)) w.heap.size v0 v1 v2 v3 v4 v5 :=
  ⟨cell_of_row _ _ _ _ _ _ (heap1_0 _ _), cell_of_row _ _ _ _ _ _ (heap1_0 _ _), cell_of_row _ _ _ _ _ _ (heap1_0 _ _), cell_of_row _ _ _ _ _ _ (heap1_0 _ _), cell_of_row _ _ _ _ _ _ (heap1_0 _ _), cell_of_row _ _ _ _ _ _ (heap1_0 _ _), frz_new (heap1_0 _ _)⟩
theorem Z6.gr {w w' : World} {b : Nat} {v0 v1 v2 v3 v4 v5 : Value} {row : Option Nat} (h : Z6 w b v0 v1 v2 v3 v4 v5) (hg : Gr w w' row) (hr : row ≠ some b) : Z6 w' b v0 v1 v2 v3 v4 v5 := by
  obtain ⟨h0, h1, h2, h3, h4, h5, hf⟩ := h
  exact ⟨hg.cell h0 hr, hg.cell h1 hr, hg.cell h2 hr, hg.cell h3 hr, hg.cell h4 hr, hg.cell h5 hr, fun o => (hg.frozen (p := ⟨b, o, none⟩) (show b < w.heap.size from lt_of_cell h0) hr).trans (hf o)⟩
theorem Z6.lt {w : World} {b : Nat} {v0 v1 v2 v3 v4 v5 : Value} (h : Z6 w b v0 v1 v2 v3 v4 v5) : b < w.heap.size := lt_of_cell h.1
theorem Z6.set4 {w : World} {b : Nat} {v0 v1 v2 v3 v4 v5 : Value} (h : Z6 w b v0 v1 v2 v3 v4 v5) (u : Value) : Z6 (w.setCell ⟨b, 4, none⟩ u) b v0 v1 v2 v3 u v5 := by
  obtain ⟨h0, h1, h2, h3, h4, h5, hf⟩ := h
  exact ⟨by rw [World.cell?_setCell_other _ _ _ _ (by simp)]; exact h0, by rw [World.cell?_setCell_other _ _ _ _ (by simp)]; exact h1, by rw [World.cell?_setCell_other _ _ _ _ (by simp)]; exact h2, by rw [World.cell?_setCell_other _ _ _ _ (by simp)]; exact h3, World.cell?_setCell_same _ _ _ h4, by rw [World.cell?_setCell_other _ _ _ _ (by simp)]; exact h5, fun o => by rw [World.frozen?_setCell]; exact hf o⟩
theorem Z6.set5 {w : World} {b : Nat} {v0 v1 v2 v3 v4 v5 : Value} (h : Z6 w b v0 v1 v2 v3 v4 v5) (u : Value) : Z6 (w.setCell ⟨b, 5, none⟩ u) b v0 v1 v2 v3 v4 u := by
  obtain ⟨h0, h1, h2, h3, h4, h5, hf⟩ := h
  exact ⟨by rw [World.cell?_setCell_other _ _ _ _ (by simp)]; exact h0, by rw [World.cell?_setCell_other _ _ _ _ (by simp)]; exact h1, by rw [World.cell?_setCell_other _ _ _ _ (by simp)]; exact h2, by rw [World.cell?_setCell_other _ _ _ _ (by simp)]; exact h3, by rw [World.cell?_setCell_other _ _ _ _ (by simp)]; exact h4, World.cell?_setCell_same _ _ _ h5, fun o => by rw [World.frozen?_setCell]; exact hf o⟩
/-- A copy. -/
def CopyR (l : List St) (w : World) (e : Ending) (w' : World) : Prop := ∃ (ao : Option Addr) (cap : Nat), e = .returned (.slice ao l.length cap) ∧ Sts w' w.heap.size ao cap l ∧ Gr w w' none
def CopyC (n : Nat) : Prop := ∀ (l : List St) (a : Option Addr) (c : Nat) (w : World), St.count l ≤ n → SlAt w Any l a → Calls Try.prog 101 #[.slice a l.length c] w (CopyR l w)
set_option maxRecDepth 100000 in
set_option maxHeartbeats 8000000 in
theorem copy_step (n : Nat) (hn : n ≤ 10000) (hA : ∀ m, m < n → CopyC m) : CopyC n := by
  intro l a c w hcn hl
  have HA := Lib.hid hA
  have hlc := length_count l
  have HE := Lib.hid (Sts.empty (w := w.alloc (.cells #[] 96)) (Nat.le_refl w.heap.size) (heap1_0 _ _))
  have HG0 := Lib.hid (show Gr w (w.alloc (.cells #[] 96)) none from (Gr.refl _ _).alloc _)
  clear hA
  go_enter Try.func101, Try.ntmps101
  go_wp2
  go_loopw [3, 4] (fun v i wr => ∃ (k : Nat) (ao : Option Addr) (cap m : Nat), k ≤ l.length ∧ i = .int .i64 k ∧ m = k ∧ v = .slice ao m cap ∧ Sts wr w.heap.size ao cap (l.take k) ∧ Gr w wr none) (fun _ i _ => l.length - (intOf i).toNat)
  case atStart => exact ⟨0, _, 0, 0, Nat.zero_le _, rfl, rfl, rfl, HE.out, HG0.out⟩
  case round =>
    obtain ⟨k, ao, cap, m, hk, rfl, hm, rfl, hS, hg⟩ := hrel
    have HM := Lib.hid hm
    have hm1 : m ≤ 10000 := by omega
    have HOWN := Lib.hid (show ∀ g, ob ao = some g → w.heap.size ≤ g ∧ g < wr.heap.size from hS.own)
    have HS := Lib.hid hS
    clear hm hS
    by_cases hlt : k < l.length
    · obtain ⟨b, off, rfl, hst⟩ := (hl.gr0 hg).at hlt
      have hin := count_get hlt
      have hTK := List.take_succ_eq_append_getElem hlt
      obtain ⟨q, hq⟩ : ∃ q, l[k] = q := ⟨_, rfl⟩
      rw [hq] at hst hin hTK
      have HTK := Lib.hid hTK
      clear hq hTK
      obtain ⟨op, x, y, kk, t, e⟩ := q
      obtain ⟨_, htm, hem, at', ct, ae, ce, c0, c1, c2, c3, c4, c5, r4, r5⟩ := hst.out
      simp only [St.op, St.x, St.y, St.n, St.thn, St.els] at c0 c1 c2 c3 c4 c5 r4 r5 htm hem
      have hin' : St.count t + St.count e + 1 ≤ St.count l := hin
      have hbw : b < wr.heap.size := lt_of_cell c0
      have HIN := Lib.hid hin'
      clear hst hin hin'
      go_upto_region 8 with fail
      obtain ⟨wA, hwA⟩ : ∃ wA : World, wA = wr.alloc (.cells #[.int .i64 op, .int .i64 x, .int .i64 y, .int .i64 kk, .slice none 0 0, .slice none 0 0] 96) := ⟨_, rfl⟩
      have hgA : Gr wr wA none := by rw [hwA]; exact (Gr.refl _ _).alloc _
      have hzA : Z6 wA wr.heap.size (.int .i64 op) (.int .i64 x) (.int .i64 y) (.int .i64 kk) (.slice none 0 0) (.slice none 0 0) := by rw [hwA]; exact Z6.new _ _ _ _ _ _ _ _
      rw [← hwA]
      have HT := Lib.hid r4
      have HEE := Lib.hid r5
      have HC4 := Lib.hid c4
      have HC5 := Lib.hid c5
      have HGA := Lib.hid hgA
      have hsA : wr.heap.size < wA.heap.size := hzA.lt
      have hszr : w.heap.size ≤ wr.heap.size := hg.size
      have HGR := Lib.hid hg
      clear hwA c0 c1 c2 c3 c4 c5 r4 r5 hgA hg
      by_cases ht0 : t.length = 0
      · obtain rfl : t = [] := List.eq_nil_of_length_eq_zero ht0
        by_cases he0 : e.length = 0
        · obtain rfl : e = [] := List.eq_nil_of_length_eq_zero he0
          have HROW := Lib.hid (show StRow wA (Inn w.heap.size ao) (.mk op x y kk [] []) [.int .i64 op, .int .i64 x, .int .i64 y, .int .i64 kk, .slice none 0 0, .slice none 0 0] from ⟨by simp [St.thn, maxLen], by simp [St.els, maxLen], none, 0, none, 0, rfl, by simp [St.thn, SlAt], by simp [St.els, SlAt]⟩)
          have HGAl := Lib.hid (show ∀ o, Gr wA (wA.alloc o) none from fun o => (Gr.refl _ _).alloc _)
          have hszW : w.heap.size ≤ wA.heap.size := (HGR.out.trans0 HGA.out).size
          have HLT := Lib.hid (show (l.take k).length = m by rw [List.length_take, HM.out]; omega)
          have c4 := HGA.out.cell HC4.out (by simp)
          have c5 := HGA.out.cell HC5.out (by simp)
          obtain ⟨z0, z1, z2, z3, z4, z5, zf⟩ := hzA
          go_wp2_with (at_builtin; refine app_sts _ rfl (.tmp 47) (.tmp 49) rfl w.heap.size ao cap (l.take k) m HLT.out rfl (HS.out.gr0 (HGA.out.trans0 (HGAl.out _))) (by omega) (by simp; omega) (.mk op x y kk [] []) _ ⟨wA.heap.size, 0, none⟩ _ rfl (row_cells (heap1_0 _ _)) (HROW.out.gr0 (HGAl.out _)) ?_; rintro g cap' w9 hS9 hg9 ho9)
          go_roundw
          case rel => exact ⟨k + 1, _, cap', m + 1, by omega, by go_num, by have := HM.out; omega, rfl, by rw [HTK.out]; exact hS9, ((HGR.out.trans0 HGA.out).alloc _).trans hg9 (fun r e => .inr (HOWN.out r e).1)⟩
          case measure => simp [intOf]; omega
        · have he1 : (0 : Int) < (e.length : Int) := by omega
          have HZA := Lib.hid hzA
          have c4 := HGA.out.cell HC4.out (by simp)
          have c5 := HGA.out.cell HC5.out (by simp)
          obtain ⟨z0, z1, z2, z3, z4, z5, zf⟩ := hzA
          go_wp2_with fail
          refine (HA.out (St.count e) (by have := HIN.out; omega) e ae ce _ (Nat.le_refl _) (HEE.out.gr0 HGA.out)).mono ?_
          rintro e2 w2 ⟨a2, c2', rfl, hS2, hg2⟩
          clear c4 c5 z0 z1 z2 z3 z4 z5 zf
          have hzc2 := HZA.out.gr hg2 (by simp)
          have HGc2 := Lib.hid (HGA.out.trans0 hg2)
          have hsz2 : wA.heap.size ≤ w2.heap.size := hg2.size
          have HZc2 := Lib.hid hzc2
          have c4 := HGc2.out.cell HC4.out (by simp)
          have c5 := HGc2.out.cell HC5.out (by simp)
          obtain ⟨z0, z1, z2, z3, z4, z5, zf⟩ := hzc2
          go_upto_region 12 with fail
          obtain ⟨w2S, hw2S⟩ : ∃ wS : World, wS = w2.setCell ⟨wr.heap.size, 5, none⟩ (.slice a2 e.length c2') := ⟨_, rfl⟩
          have hown2 : Gr w2 w2S (some wr.heap.size) := by rw [hw2S]; exact own_set _ _ _ _
          have hz2S := HZc2.out.set5 (.slice a2 e.length c2')
          rw [← hw2S] at hz2S ⊢
          have HG2S := Lib.hid (HGc2.out.trans hown2 (fun r hr => .inr (by cases hr; exact Nat.le_refl _)))
          have HL2 := Lib.hid (hS2.at.far hown2 (fun r hr => by cases hr; omega))
          have hszS2 : w2.heap.size ≤ w2S.heap.size := hown2.size
          have HSTEP2 := Lib.hid (show Gr wA w2S (some wr.heap.size) from hg2.weaken.trans hown2 (fun r e => .inl e))
          clear hw2S hown2 hS2 hg2 c4 c5 z0 z1 z2 z3 z4 z5 zf
          have HROW := Lib.hid (show StRow w2S (Inn w.heap.size ao) (.mk op x y kk [] e) [.int .i64 op, .int .i64 x, .int .i64 y, .int .i64 kk, .slice none 0 0, .slice a2 e.length c2'] from ⟨by simp [St.thn, maxLen], hem, none, 0, a2, c2', rfl, by simp [St.thn, SlAt], HL2.out.sub fun b o hb => ⟨by unfold New at hb; omega, fun eo => by have := (HOWN.out b eo).2; unfold New at hb; omega⟩⟩)
          have HGAl := Lib.hid (show ∀ o, Gr w2S (w2S.alloc o) none from fun o => (Gr.refl _ _).alloc _)
          have hszW : w.heap.size ≤ w2S.heap.size := (HGR.out.trans0 HG2S.out).size
          have HLT := Lib.hid (show (l.take k).length = m by rw [List.length_take, HM.out]; omega)
          have c4 := HG2S.out.cell HC4.out (by simp)
          have c5 := HG2S.out.cell HC5.out (by simp)
          obtain ⟨z0, z1, z2, z3, z4, z5, zf⟩ := hz2S
          go_wp2_with (at_builtin; refine app_sts _ rfl (.tmp 47) (.tmp 49) rfl w.heap.size ao cap (l.take k) m HLT.out rfl (HS.out.gr0 (HG2S.out.trans0 (HGAl.out _))) (by omega) (by simp; omega) (.mk op x y kk [] e) _ ⟨w2S.heap.size, 0, none⟩ _ rfl (row_cells (heap1_0 _ _)) (HROW.out.gr0 (HGAl.out _)) ?_; rintro g cap' w9 hS9 hg9 ho9)
          go_roundw
          case rel => exact ⟨k + 1, _, cap', m + 1, by omega, by go_num, by have := HM.out; omega, rfl, by rw [HTK.out]; exact hS9, ((HGR.out.trans0 HG2S.out).alloc _).trans hg9 (fun r e => .inr (HOWN.out r e).1)⟩
          case measure => simp [intOf]; omega
      · have ht1 : (0 : Int) < (t.length : Int) := by omega
        have HZA := Lib.hid hzA
        have c4 := HGA.out.cell HC4.out (by simp)
        have c5 := HGA.out.cell HC5.out (by simp)
        obtain ⟨z0, z1, z2, z3, z4, z5, zf⟩ := hzA
        go_wp2_with fail
        refine (HA.out (St.count t) (by have := HIN.out; omega) t at' ct _ (Nat.le_refl _) (HT.out.gr0 HGA.out)).mono ?_
        rintro e1 w1 ⟨a1, c1', rfl, hS1, hg1⟩
        clear c4 c5 z0 z1 z2 z3 z4 z5 zf
        have hzc1 := HZA.out.gr hg1 (by simp)
        have HGc1 := Lib.hid (HGA.out.trans0 hg1)
        have hsz1 : wA.heap.size ≤ w1.heap.size := hg1.size
        have HZc1 := Lib.hid hzc1
        have c4 := HGc1.out.cell HC4.out (by simp)
        have c5 := HGc1.out.cell HC5.out (by simp)
        obtain ⟨z0, z1, z2, z3, z4, z5, zf⟩ := hzc1
        go_upto_region 10 with fail
        obtain ⟨w1S, hw1S⟩ : ∃ wS : World, wS = w1.setCell ⟨wr.heap.size, 4, none⟩ (.slice a1 t.length c1') := ⟨_, rfl⟩
        have hown1 : Gr w1 w1S (some wr.heap.size) := by rw [hw1S]; exact own_set _ _ _ _
        have hz1S := HZc1.out.set4 (.slice a1 t.length c1')
        rw [← hw1S] at hz1S ⊢
        have HG1S := Lib.hid (HGc1.out.trans hown1 (fun r hr => .inr (by cases hr; exact Nat.le_refl _)))
        have HL1 := Lib.hid (hS1.at.far hown1 (fun r hr => by cases hr; omega))
        have hszS1 : w1.heap.size ≤ w1S.heap.size := hown1.size
        have HSTEP1 := Lib.hid (show Gr wA w1S (some wr.heap.size) from hg1.weaken.trans hown1 (fun r e => .inl e))
        clear hw1S hown1 hS1 hg1 c4 c5 z0 z1 z2 z3 z4 z5 zf
        by_cases he0 : e.length = 0
        · obtain rfl : e = [] := List.eq_nil_of_length_eq_zero he0
          have HROW := Lib.hid (show StRow w1S (Inn w.heap.size ao) (.mk op x y kk t []) [.int .i64 op, .int .i64 x, .int .i64 y, .int .i64 kk, .slice a1 t.length c1', .slice none 0 0] from ⟨htm, by simp [St.els, maxLen], a1, c1', none, 0, rfl, HL1.out.sub fun b o hb => ⟨by unfold New at hb; omega, fun eo => by have := (HOWN.out b eo).2; unfold New at hb; omega⟩, by simp [St.els, SlAt]⟩)
          have HGAl := Lib.hid (show ∀ o, Gr w1S (w1S.alloc o) none from fun o => (Gr.refl _ _).alloc _)
          have hszW : w.heap.size ≤ w1S.heap.size := (HGR.out.trans0 HG1S.out).size
          have HLT := Lib.hid (show (l.take k).length = m by rw [List.length_take, HM.out]; omega)
          have c4 := HG1S.out.cell HC4.out (by simp)
          have c5 := HG1S.out.cell HC5.out (by simp)
          obtain ⟨z0, z1, z2, z3, z4, z5, zf⟩ := hz1S
          go_wp2_with (at_builtin; refine app_sts _ rfl (.tmp 47) (.tmp 49) rfl w.heap.size ao cap (l.take k) m HLT.out rfl (HS.out.gr0 (HG1S.out.trans0 (HGAl.out _))) (by omega) (by simp; omega) (.mk op x y kk t []) _ ⟨w1S.heap.size, 0, none⟩ _ rfl (row_cells (heap1_0 _ _)) (HROW.out.gr0 (HGAl.out _)) ?_; rintro g cap' w9 hS9 hg9 ho9)
          go_roundw
          case rel => exact ⟨k + 1, _, cap', m + 1, by omega, by go_num, by have := HM.out; omega, rfl, by rw [HTK.out]; exact hS9, ((HGR.out.trans0 HG1S.out).alloc _).trans hg9 (fun r e => .inr (HOWN.out r e).1)⟩
          case measure => simp [intOf]; omega
        · have he1 : (0 : Int) < (e.length : Int) := by omega
          have HZ1S := Lib.hid hz1S
          have c4 := HG1S.out.cell HC4.out (by simp)
          have c5 := HG1S.out.cell HC5.out (by simp)
          obtain ⟨z0, z1, z2, z3, z4, z5, zf⟩ := hz1S
          go_wp2_with fail
          refine (HA.out (St.count e) (by have := HIN.out; omega) e ae ce _ (Nat.le_refl _) (HEE.out.gr0 HG1S.out)).mono ?_
          rintro e2 w2 ⟨a2, c2', rfl, hS2, hg2⟩
          clear c4 c5 z0 z1 z2 z3 z4 z5 zf
          have hzc2 := HZ1S.out.gr hg2 (by simp)
          have HGc2 := Lib.hid (HG1S.out.trans0 hg2)
          have hsz2 : w1S.heap.size ≤ w2.heap.size := hg2.size
          have HZc2 := Lib.hid hzc2
          have c4 := HGc2.out.cell HC4.out (by simp)
          have c5 := HGc2.out.cell HC5.out (by simp)
          obtain ⟨z0, z1, z2, z3, z4, z5, zf⟩ := hzc2
          go_upto_region 12 with fail
          obtain ⟨w2S, hw2S⟩ : ∃ wS : World, wS = w2.setCell ⟨wr.heap.size, 5, none⟩ (.slice a2 e.length c2') := ⟨_, rfl⟩
          have hown2 : Gr w2 w2S (some wr.heap.size) := by rw [hw2S]; exact own_set _ _ _ _
          have hz2S := HZc2.out.set5 (.slice a2 e.length c2')
          rw [← hw2S] at hz2S ⊢
          have HG2S := Lib.hid (HGc2.out.trans hown2 (fun r hr => .inr (by cases hr; exact Nat.le_refl _)))
          have HL2 := Lib.hid (hS2.at.far hown2 (fun r hr => by cases hr; omega))
          have hszS2 : w2.heap.size ≤ w2S.heap.size := hown2.size
          have HSTEP2 := Lib.hid (show Gr w1S w2S (some wr.heap.size) from hg2.weaken.trans hown2 (fun r e => .inl e))
          clear hw2S hown2 hS2 hg2 c4 c5 z0 z1 z2 z3 z4 z5 zf
          have HL1b := Lib.hid (HL1.out.far HSTEP2.out (fun r hr => by cases hr; omega))
          have HROW := Lib.hid (show StRow w2S (Inn w.heap.size ao) (.mk op x y kk t e) [.int .i64 op, .int .i64 x, .int .i64 y, .int .i64 kk, .slice a1 t.length c1', .slice a2 e.length c2'] from ⟨htm, hem, a1, c1', a2, c2', rfl, HL1b.out.sub fun b o hb => ⟨by unfold New at hb; omega, fun eo => by have := (HOWN.out b eo).2; unfold New at hb; omega⟩, HL2.out.sub fun b o hb => ⟨by unfold New at hb; omega, fun eo => by have := (HOWN.out b eo).2; unfold New at hb; omega⟩⟩)
          have HGAl := Lib.hid (show ∀ o, Gr w2S (w2S.alloc o) none from fun o => (Gr.refl _ _).alloc _)
          have hszW : w.heap.size ≤ w2S.heap.size := (HGR.out.trans0 HG2S.out).size
          have HLT := Lib.hid (show (l.take k).length = m by rw [List.length_take, HM.out]; omega)
          have c4 := HG2S.out.cell HC4.out (by simp)
          have c5 := HG2S.out.cell HC5.out (by simp)
          obtain ⟨z0, z1, z2, z3, z4, z5, zf⟩ := hz2S
          go_wp2_with (at_builtin; refine app_sts _ rfl (.tmp 47) (.tmp 49) rfl w.heap.size ao cap (l.take k) m HLT.out rfl (HS.out.gr0 (HG2S.out.trans0 (HGAl.out _))) (by omega) (by simp; omega) (.mk op x y kk t e) _ ⟨w2S.heap.size, 0, none⟩ _ rfl (row_cells (heap1_0 _ _)) (HROW.out.gr0 (HGAl.out _)) ?_; rintro g cap' w9 hS9 hg9 ho9)
          go_roundw
          case rel => exact ⟨k + 1, _, cap', m + 1, by omega, by go_num, by have := HM.out; omega, rfl, by rw [HTK.out]; exact hS9, ((HGR.out.trans0 HG2S.out).alloc _).trans hg9 (fun r e => .inr (HOWN.out r e).1)⟩
          case measure => simp [intOf]; omega
    · obtain rfl : k = l.length := by omega
      go_wp2
      go_ret
      exact ⟨ao, cap, by rw [HM.out]; rfl, by have := HS.out; rw [List.take_length] at this; exact this, hg⟩
theorem copy_all : ∀ n, n ≤ 10000 → CopyC n := fun n => Nat.strongRecOn n (fun n ih hn => copy_step n hn (fun m hm => ih m hm (by omega)))
end Go.Proofs.Ytadidppbhpdnkaa

namespace Go.Proofs.Ytadidppbhpdnkaa

open Go.RowKit

theorem run_copy_ints (w : World) (ty : TypeId) (b0 base g : Nat) (hb : b0 ≤ base) (hbase : base ≤ w.heap.size) (hg0 : b0 ≤ g) (hgc : w.heap[g]? = some (.cells #[] 3 (0, 0))) (an : Option Addr) (cn : Nat) (m : List Int) (hm : InAt w Any m an) (hlen : m.length ≤ 1000000) :
    ∃ (ao : Option Addr) (cap' : Nat) (w' : World), (Builtin.append_ #[23, 23] ty #[.slice (some ⟨g, 0, none⟩) 0 0, .slice an m.length cn]).run Try.prog w = .ok (.slice ao m.length cap') w' ∧ Lst w' b0 base m ao m.length cap' ∧ Gr w w' none := by
  obtain ⟨i0, hi, hz0, hz1, hz2⟩ := info_parts Qinfo
  by_cases hne : m.length = 0
  · have hm0 : m = [] := List.eq_nil_of_length_eq_zero hne
    subst hm0
    refine ⟨some ⟨g, 0, none⟩, 0, w, ?_, Lst.empty hb hg0 hgc, Gr.refl _ _⟩
    cases an with
    | none => simp [Builtin.append_, run_underlying Try.underlying23, sizeOf, typeInfo, hi, Builtin.lenOf, Builtin.firstCells, storeCells]
    | some ad =>
      have := run_append_room_cells (P := Try.prog) w 23 ty 3 i0 Try.underlying23 hi g 0 0 0 ad 0 cn [] (by simp) (by simp) (by simp) (by simp) (by simp) (by simp)
      simpa [World.setCells] using this
  · have hpos : 0 < m.length := by omega
    obtain ⟨ad, rfl⟩ : ∃ ad, an = some ad := by
      cases an with
      | some ad => exact ⟨ad, rfl⟩
      | none => obtain ⟨_, _, e, _⟩ := hm.at hpos; simp at e
    have hsp := hm.addr hpos
    obtain ⟨ab, ao, asp⟩ := ad
    simp at hsp
    subst hsp
    obtain ⟨v', w', hrun, h1, h2⟩ := run_append_arg_grows (P := Try.prog) (w := w) 23 ty 3 i0 _ 1 8 Try.underlying23 hi hz0 hz1 hz2 rfl (by decide) ⟨g, 0, none⟩ 0 0 [] (by simp) (by simp) ⟨ab, ao, none⟩ m.length cn (ints m) (by simp [ints]) (fun j u hu => by
      have hj : j < m.length := by simpa [ints] using (List.getElem?_eq_some_iff.1 hu).1
      obtain ⟨b', o', e, _, hc⟩ := hm.at hj
      cases e
      rw [Addr.add_lit]
      rw [hc]
      simpa [ints, hj] using hu) (by omega) (by unfold maxLen; omega) (by omega)
    obtain ⟨g', cap', rfl⟩ := own_some h1 (by omega)
    exact ⟨some ⟨g', 0, none⟩, cap', w', by simpa using hrun, ⟨rfl, hb, .inr (by simpa using own_mono h1 hbase)⟩, h2⟩
theorem Lst.far {w w' : World} {row : Option Nat} {b0 base : Nat} {l : List Int} {ao : Option Addr} {n cap : Nat} (h : Lst w b0 base l ao n cap) (hg : Gr w w' row) (hr : ∀ r, row = some r → r < b0) : Lst w' b0 base l ao n cap := by
  have hown := h.own
  refine ⟨h.1, h.2.1, ?_⟩
  rcases h.2.2 with ⟨h1, h2, h3⟩ | h4
  · exact .inl ⟨h1, h2, fun g hgo => by
      obtain ⟨hb, cs, t, hc⟩ := h3 g hgo
      exact ⟨hb, cs, t, (hg.block g (lt_of_block hc) (fun e => by have := hr g e.symm; omega)).trans hc⟩⟩
  · refine .inr (h4.kept hg ?_)
    rw [ownBlock_slice]
    cases ha : ob ao with
    | none => exact .inl rfl
    | some g => exact .inr (fun e => by have := hr g e.symm; have := (hown g ha).1; omega)
theorem Lst.off {w w' : World} {row : Option Nat} {b0 base : Nat} {l : List Int} {ao : Option Addr} {n cap : Nat} (h : Lst w b0 base l ao n cap) (hg : Gr w w' row) (hr : ∀ r, row = some r → ob ao ≠ some r) : Lst w' b0 base l ao n cap := by
  refine ⟨h.1, h.2.1, ?_⟩
  rcases h.2.2 with ⟨h1, h2, h3⟩ | h4
  · exact .inl ⟨h1, h2, fun g hgo => by
      obtain ⟨hb, cs, t, hc⟩ := h3 g hgo
      exact ⟨hb, cs, t, (hg.block g (lt_of_block hc) (fun e => hr g e.symm hgo)).trans hc⟩⟩
  · refine .inr (h4.kept hg ?_)
    rw [ownBlock_slice]
    cases ha : ob ao with
    | none => exact .inl rfl
    | some g => exact .inr (fun e => hr g e.symm ha)
theorem lst_rows1 {w : World} {b0 base : Nat} {l : List Int} {ao : Option Addr} {n cap : Nat} (h : Lst w b0 base l ao n cap) : LstR 3 1 w b0 base (l.map fun x => [Value.int .i64 x]) ao n cap := by
  have hf : (l.map fun x => [Value.int .i64 x]).flatten = ints l := by
    clear h; induction l with
    | nil => rfl
    | cons x r ih => simp [ints] at ih ⊢; exact ih
  refine ⟨by simpa using h.1, h.2.1, by simp, ?_⟩
  rcases h.2.2 with ⟨h1, h2⟩ | h4
  · exact .inl ⟨by simp [h1], h2⟩
  · exact .inr (by rw [hf]; exact h4)
theorem lst_of_rows {w : World} {b0 base : Nat} {l : List Int} {ao : Option Addr} {n cap : Nat} (h : LstR 3 1 w b0 base (l.map fun x => [Value.int .i64 x]) ao n cap) : Lst w b0 base l ao n cap := by
  have hf : (l.map fun x => [Value.int .i64 x]).flatten = ints l := by
    clear h; induction l with
    | nil => rfl
    | cons x r ih => simp [ints] at ih ⊢; exact ih
  refine ⟨by simpa using h.1, h.2.1, ?_⟩
  rcases h.2.2.2 with ⟨h1, h2⟩ | h4
  · exact .inl ⟨by simpa using h1, h2⟩
  · exact .inr (by rw [← hf]; exact h4)
/-! ### Statements -/

theorem flatten_take {s : Nat} : ∀ (L : List (List Value)) (k : Nat), (∀ r ∈ L, r.length = s) → (L.take k).flatten = L.flatten.take (k * s)
  | [], k, _ => by simp
  | r :: L, 0, _ => by simp
  | r :: L, k + 1, h => by
    have h1 : r.length = s := h r (by simp)
    simp only [List.take_succ_cons, List.flatten_cons]
    rw [flatten_take L k (fun q hq => h q (by simp [hq])), List.take_append, List.take_of_length_le (l := r) (by rw [h1, Nat.add_mul]; omega), h1, show (k + 1) * s - s = k * s from by rw [Nat.add_mul]; omega]
theorem flatten_set {s : Nat} : ∀ (L : List (List Value)) (i j : Nat) (u : Value), (∀ r ∈ L, r.length = s) → (hi : i < L.length) → j < s → L.flatten.set (i * s + j) u = (L.set i (L[i].set j u)).flatten
  | r :: L, 0, j, u, h, _, hj => by
    have h1 : r.length = s := h r (by simp)
    simp only [List.flatten_cons, Nat.zero_mul, Nat.zero_add, List.getElem_cons_zero, List.set_cons_zero]
    rw [List.set_append_left _ _ (by omega)]
  | r :: L, i + 1, j, u, h, hi, hj => by
    have h1 : r.length = s := h r (by simp)
    simp only [List.flatten_cons, List.getElem_cons_succ, List.set_cons_succ]
    rw [List.set_append_right _ _ (by rw [h1, Nat.add_mul]; omega), h1, show (i + 1) * s + j - s = i * s + j from by rw [Nat.add_mul]; omega, flatten_set L i j u (fun q hq => h q (by simp [hq])) (by simpa using hi) hj]
theorem Sts.take {w : World} {base g cap : Nat} {l : List St} (h : Sts w base (some ⟨g, 0, none⟩) cap l) (k : Nat) (hk : k ≤ l.length) : Sts w base (some ⟨g, 0, none⟩) cap (l.take k) := by
  obtain ⟨rows, hl, ho, hs⟩ := h
  have hlen : ∀ r ∈ rows, r.length = 6 := fun r hr => by
    obtain ⟨i, hi, rfl⟩ := List.getElem_of_mem hr
    exact (hs i (by omega)).len
  have hkl : (l.take k).length = k := by rw [List.length_take]; omega
  refine ⟨rows.take k, by simp [hl], ?_, fun i hi => ?_⟩
  · rw [hkl]
    rcases ho.2 with ⟨hv, _⟩ | ⟨g', cap', cur, hv, hb, hc, q1, q2, q3, q4⟩
    · cases hv
    · cases hv
      refine ⟨?_, .inr ⟨g, cap, cur, rfl, hb, hc, by omega, q2, q3, ?_⟩⟩
      · rw [flatten_take rows k hlen, List.length_take, ho.1]; simp; omega
      · rw [flatten_take rows k hlen, ← q4, List.take_take]
        congr 1
        have : k * 6 ≤ l.length * 6 := Nat.mul_le_mul_right 6 hk
        omega
  · rw [List.getElem_take, List.getElem_take]
    exact hs i (by rw [hkl] at hi; omega)
/-- append of statements, as a run. -/
theorem run_app_sts (w : World) (ty : TypeId) (base g cap n m : Nat) (L M : List St) (hn : L.length = n) (hown : Sts w base (some ⟨g, 0, none⟩) cap L) (hm : M.length = m) (rM : List (List Value)) (hrl : rM.length = M.length)
    (hrM : ∀ i (h : i < M.length), StRow w (Inn base (some ⟨g, 0, none⟩)) M[i] (rM[i]'(by omega))) (ad : Addr) (c : Nat) (hb : ∀ j u, rM.flatten[j]? = some u → w.cell? (ad.add j) = some u) (hsum : n + m ≤ 100000) (hbase : base ≤ w.heap.size) (hfit : m = 0 → n ≤ cap) :
    ∃ (g' cap' : Nat) (w' : World), (Builtin.append_ #[24, 24] ty #[.slice (some ⟨g, 0, none⟩) n cap, .slice (some ad) m c]).run Try.prog w = .ok (.slice (some ⟨g', 0, none⟩) (n + m) cap') w' ∧
      Sts w' base (some ⟨g', 0, none⟩) cap' (L ++ M) ∧ Gr w w' (some g) := by
  subst hn hm
  obtain ⟨i0, hi, hz0, hz1, hz2⟩ := info_parts StInfo
  have hown' := hown
  obtain ⟨rows, hl, hrow, hss⟩ := hown'
  have hlenM : ∀ r ∈ rM, r.length = 6 := fun r hr => by
    obtain ⟨i, hi, rfl⟩ := List.getElem_of_mem hr
    exact (hrM i (by omega)).len
  have hfl : rM.flatten.length = M.length * 6 := by
    rw [← hrl]; clear hrM hb hrl
    induction rM with
    | nil => simp
    | cons r R ih => simp only [List.flatten_cons, List.length_append, List.length_cons]; rw [ih (fun q hq => hlenM q (by simp [hq])), hlenM r (by simp)]; omega
  have h1c : ∀ u ∈ rM.flatten, u.oneCell' = true := by
    intro u hu
    obtain ⟨r, hr, hur⟩ := List.mem_flatten.1 hu
    obtain ⟨i, hi, rfl⟩ := List.getElem_of_mem hr
    exact (hrM i (by omega)).one u hur
  have fin : ∀ (g' cap' : Nat) (w' : World), w'.ownsRow base 96 6 (.slice (some ⟨g', 0, none⟩) (L.length + M.length) cap') (L.length + M.length) (rows.flatten ++ rM.flatten) → Gr w w' (some g) → (some g = some g' ∨ w.heap.size ≤ g') → Sts w' base (some ⟨g', 0, none⟩) cap' (L ++ M) := by
    intro g' cap' w' h2 h3 h4
    refine ⟨rows ++ rM, by simp [hl, hrl], by simpa using h2, fun i hi => ?_⟩
    by_cases hlt : i < L.length
    · rw [List.getElem_append_left hlt, List.getElem_append_left (show i < rows.length by omega)]
      exact (hss i hlt).push h3 h4
    · rw [List.getElem_append_right (by omega), List.getElem_append_right (by omega)]
      simp only [hl]
      exact (hrM (i - L.length) (by simp at hi; omega)).push h3 h4
  by_cases hroom : L.length + M.length ≤ cap
  · obtain ⟨w', hrun, r1, r2⟩ := run_append_fits (P := Try.prog) w base 24 ty 96 i0 6 Try.underlying24 hi hz1 g L.length cap rows.flatten hrow ad M.length c rM.flatten hfl hb h1c hroom
    exact ⟨g, cap, w', hrun, fin g cap w' r1 r2 (.inl rfl), r2⟩
  · have hpos : 0 < M.length := by
      rcases Nat.eq_zero_or_pos M.length with h0 | h0
      · have := hfit h0; omega
      · exact h0
    obtain ⟨v', w', hrun, h1, h2⟩ := run_append_arg_grows (P := Try.prog) (w := w) 24 ty 96 i0 _ 6 80 Try.underlying24 hi hz0 hz1 hz2 rfl (by decide) ⟨g, 0, none⟩ L.length cap rows.flatten hrow.1 (hrow.cells (g := g) rfl) ad M.length c rM.flatten hfl hb (by omega) (by unfold maxLen; omega) (by omega)
    obtain ⟨g', cap', rfl⟩ := own_some h1 (by omega)
    have hge : w.heap.size ≤ g' := (own_block h1 g' rfl).1
    exact ⟨g', cap', w', hrun, fin g' cap' w' (own_mono h1 hbase) (Gr.weaken h2) (.inr hge), Gr.weaken h2⟩
/-- A number of a statement is stored. -/
theorem Sts.set {w : World} {base g cap : Nat} {l : List St} (h : Sts w base (some ⟨g, 0, none⟩) cap l) {i : Nat} (hi : i < l.length) {j : Nat} (hj : j < 4) (v : Int) :
    ∃ s' : St, s'.inner = l[i].inner ∧ Sts (w.setCell ⟨g, i * 6 + j, none⟩ (.int .i64 v)) base (some ⟨g, 0, none⟩) cap (l.set i s') := by
  obtain ⟨rows, hl, ho, hs⟩ := h
  have hlen : ∀ r ∈ rows, r.length = 6 := fun r hr => by
    obtain ⟨k, hk, rfl⟩ := List.getElem_of_mem hr
    exact (hs k (by omega)).len
  have hown : Gr w (w.setCell ⟨g, i * 6 + j, none⟩ (.int .i64 v)) (some g) := own_set _ _ _ _
  have hst := (ho.stored (i * 6 + j) (.int .i64 v)).1
  rw [flatten_set rows i j _ hlen (by omega) (by omega)] at hst
  have mv : ∀ (l : List St) a, SlAt w (Inn base (some ⟨g, 0, none⟩)) l a → SlAt (w.setCell ⟨g, i * 6 + j, none⟩ (.int .i64 v)) (Inn base (some ⟨g, 0, none⟩)) l a := fun l a h => SlAt.gr hown (fun b _ hb e => hb.2 (by cases e; rfl)) h
  obtain ⟨h1, h2, at', ct, ae, ce, hr, h3, h4⟩ := hs i hi
  have key : ∃ s' : St, s'.inner = l[i].inner ∧ s'.thn = l[i].thn ∧ s'.els = l[i].els ∧ (rows[i]'(by omega)).set j (.int .i64 v) = [.int .i64 s'.op, .int .i64 s'.x, .int .i64 s'.y, .int .i64 s'.n, .slice at' s'.thn.length ct, .slice ae s'.els.length ce] := by
    rw [hr]
    generalize l[i] = q
    obtain ⟨op, x, y, n, t, e⟩ := q
    have hj4 : j = 0 ∨ j = 1 ∨ j = 2 ∨ j = 3 := by omega
    rcases hj4 with rfl | rfl | rfl | rfl
    · exact ⟨.mk v x y n t e, rfl, rfl, rfl, rfl⟩
    · exact ⟨.mk op v y n t e, rfl, rfl, rfl, rfl⟩
    · exact ⟨.mk op x v n t e, rfl, rfl, rfl, rfl⟩
    · exact ⟨.mk op x y v t e, rfl, rfl, rfl, rfl⟩
  obtain ⟨s', k1, k2, k3, k4⟩ := key
  refine ⟨s', k1, rows.set i ((rows[i]'(by omega)).set j (.int .i64 v)), by simp [hl], by simpa using hst, fun k hk => ?_⟩
  have hk' : k < l.length := by simpa using hk
  by_cases e : k = i
  · subst e
    rw [List.getElem_set_self, List.getElem_set_self]
    exact ⟨by rw [k2]; exact h1, by rw [k3]; exact h2, at', ct, ae, ce, k4, by rw [k2]; exact mv _ _ h3, by rw [k3]; exact mv _ _ h4⟩
  · rw [List.getElem_set_ne (by omega), List.getElem_set_ne (by omega)]
    exact (hs k hk').map mv
/-- No int lies in a block of two values that are none. -/
def NoInt (v : Value) : Prop := ∀ k x, v ≠ .int k x
mutual
theorem StAt.offB {w : World} {D : Nat → Nat → Prop} {bo : Nat} {v0 v1 : Value} {t : TypeId} (hb : w.heap[bo]? = some (.cells #[v0, v1] t (0, 0))) (h0 : NoInt v0) (h1 : NoInt v1) : ∀ (s : St) (b off : Nat), StAt w D s b off → StAt w (fun b o => D b o ∧ b ≠ bo) s b off
  | .mk op x y n t e, b, off, h => by
    simp only [StAt] at h ⊢
    obtain ⟨hd, ht, he, at', ct, ae, ce, c0, c1, c2, c3, c4, c5, r4, r5⟩ := h
    refine ⟨⟨hd, fun e => ?_⟩, ht, he, at', ct, ae, ce, c0, c1, c2, c3, c4, c5, SlAt.offB hb h0 h1 t at' r4, SlAt.offB hb h0 h1 _ ae r5⟩
    subst e
    rw [cell_of_row _ _ _ _ _ _ hb] at c0
    match off, c0 with
    | 0, c0 => simp at c0; exact h0 _ _ c0
    | 1, c0 => simp at c0; exact h1 _ _ c0
    | off + 2, c0 => simp at c0
theorem SlAt.offB {w : World} {D : Nat → Nat → Prop} {bo : Nat} {v0 v1 : Value} {t : TypeId} (hb : w.heap[bo]? = some (.cells #[v0, v1] t (0, 0))) (h0 : NoInt v0) (h1 : NoInt v1) : ∀ (l : List St) (a : Option Addr), SlAt w D l a → SlAt w (fun b o => D b o ∧ b ≠ bo) l a
  | [], _, _ => by simp [SlAt]
  | s :: r, a, h => by
    simp only [SlAt] at h ⊢
    obtain ⟨b, off, ha, hs, hr⟩ := h
    exact ⟨b, off, ha, StAt.offB hb h0 h1 s b off hs, SlAt.offB hb h0 h1 r _ hr⟩
end
theorem noInt_slice (a : Option Addr) (n c : Nat) : NoInt (.slice a n c) := fun k x h => by cases h
/-- Collected statements do not lie in a program's own block. -/
theorem Sts.offB {w w' : World} {base : Nat} {ao : Option Addr} {cap : Nat} {l : List St} {bo : Nat} {a0 a1 : Option Addr} {n0 n1 c0 c1 : Nat} (h : Sts w base ao cap l) (hb : w.heap[bo]? = some (.cells #[.slice a0 n0 c0, .slice a1 n1 c1] 26 (0, 0))) (hg : Gr w w' (some bo)) : Sts w' base ao cap l := by
  obtain ⟨rows, hl, ho, hs⟩ := h
  refine ⟨rows, hl, ho.kept hg ?_, fun i hi => (hs i hi).map fun l a h => (SlAt.gr hg (fun b o hd e => hd.2 (by cases e; rfl)) (SlAt.offB hb (noInt_slice _ _ _) (noInt_slice _ _ _) l a h)).sub fun b o hd => hd.1⟩
  rw [ownBlock_slice]
  rcases ho.2 with ⟨hv, _⟩ | ⟨g', cap', cur, hv, _, hc, _⟩
  · simp only [Value.slice.injEq] at hv
    rw [hv.1]; exact .inl rfl
  · simp only [Value.slice.injEq] at hv
    rw [hv.1]
    refine .inr (fun e => ?_)
    simp [ob] at e
    subst e
    rw [hc] at hb
    simp at hb
theorem Lst.offB {w w' : World} {b0 base : Nat} {l : List Int} {ao : Option Addr} {n cap bo : Nat} {v0 v1 : Value} (h : Lst w b0 base l ao n cap) (hl : l ≠ []) (hb : w.heap[bo]? = some (.cells #[v0, v1] 26 (0, 0))) (hg : Gr w w' (some bo)) : Lst w' b0 base l ao n cap := by
  refine h.off hg (fun r e hr => ?_)
  cases e
  rcases h.2.2 with ⟨h1, _⟩ | h4
  · exact hl h1
  · rcases h4.2 with ⟨hv, _⟩ | ⟨g', cap', cur, hv, _, hc, _⟩
    · simp only [Value.slice.injEq] at hv
      rw [hv.1] at hr; simp [ob] at hr
    · simp only [Value.slice.injEq] at hv
      rw [hv.1] at hr
      simp [ob] at hr
      subst hr
      rw [hc] at hb
      simp at hb
theorem flatten_drop {s : Nat} : ∀ (L : List (List Value)) (k : Nat), (∀ r ∈ L, r.length = s) → (L.drop k).flatten = L.flatten.drop (k * s)
  | [], k, _ => by simp
  | r :: L, 0, _ => by simp
  | r :: L, k + 1, h => by
    have h1 : r.length = s := h r (by simp)
    simp only [List.drop_succ_cons, List.flatten_cons]
    rw [flatten_drop L k (fun q hq => h q (by simp [hq])), List.drop_append, show r.drop ((k + 1) * s) = [] from List.drop_eq_nil_of_le (by rw [h1, Nat.add_mul]; omega), List.nil_append, h1, show (k + 1) * s - s = k * s from by rw [Nat.add_mul]; omega]
/-- The statements behind one, as rows that lie there. -/
theorem Sts.behind {w : World} {base g cap : Nat} {l : List St} (h : Sts w base (some ⟨g, 0, none⟩) cap l) (k : Nat) :
    ∃ rM : List (List Value), ∃ hrl : rM.length = (l.drop k).length, (∀ i (h : i < (l.drop k).length), StRow w (Inn base (some ⟨g, 0, none⟩)) (l.drop k)[i] (rM[i]'(by omega))) ∧ (∀ j u, rM.flatten[j]? = some u → w.cell? ((⟨g, k * 6, none⟩ : Addr).add j) = some u) ∧ l.length ≤ cap := by
  obtain ⟨rows, hl, ho, hs⟩ := h
  have hlen : ∀ r ∈ rows, r.length = 6 := fun r hr => by
    obtain ⟨i, hi, rfl⟩ := List.getElem_of_mem hr
    exact (hs i (by omega)).len
  refine ⟨rows.drop k, by simp [hl], fun i hi => ?_, fun j u hu => ?_, ?_⟩
  · rw [List.getElem_drop, List.getElem_drop]
    exact hs (k + i) (by simp at hi; omega)
  · rw [flatten_drop rows k hlen, List.getElem?_drop] at hu
    have hj := (List.getElem?_eq_some_iff.1 hu).1
    rw [ho.1] at hj
    rw [Addr.add_lit, ho.cellAt (k * 6 + j) hj]
    exact hu
  · rcases ho.2 with ⟨hv, _⟩ | ⟨g', cap', cur, hv, hb, hc, q1, q2, q3, q4⟩
    · cases hv
    · simp only [Value.slice.injEq] at hv
      rw [hv.2.2]; exact q1
theorem count_cut (l : List St) {k : Nat} (hk : k < l.length) : St.count (l.take k ++ l.drop (k + 1)) ≤ St.count l := by
  have h1 := count_take_succ hk
  have h2 : St.count (l.take (k + 1) ++ l.drop (k + 1)) = St.count l := by rw [List.take_append_drop]
  rw [count_app] at h2 ⊢
  omega
theorem count_set : ∀ (l : List St) (i : Nat) (s : St) (hi : i < l.length), s.inner = l[i].inner → St.count (l.set i s) = St.count l
  | x :: r, 0, s, _, h => by simp at h; simp [St.count, h]
  | x :: r, i + 1, s, hi, h => by
    simp only [List.set_cons_succ, St.count]
    rw [count_set r i s (by simpa using hi) (by simpa using h)]
end Go.Proofs.Ytadidppbhpdnkaa

namespace Go.Proofs.Ytadidppbhpdnkaa

open Go.RowKit

/-- A builtin append as one step of a region that draws its order. -/
theorem step_run {ops : Array Oper} {o : Oper} {a : Act} {K : Act → World → Prop} {Q : Exit → Act → World → Prop} {E : Prop} {W : World} (hgd : o.guard = none) (x y : Operand) (t : TypeId)
    (ho : o.op = .call { callee := .builtin .append, args := #[x, y], argTypes := #[t, t] }) (vx vy : Value) (hx : a.eval x = vx) (hy : a.eval y = vy) (v : Value) (w' : World)
    (hrun : (Builtin.append_ #[t, t] o.type #[vx, vy]).run Try.prog W = .ok v w') (h : K (a.put o.dst v) w') : if Region.wanted o (yielded ops a.tmps) = true then Oper.wp Try.prog o a W K Q else E := by
  have hw : Region.wanted o (yielded ops a.tmps) = true := by simp [Region.wanted, hgd]
  rw [if_pos hw]
  unfold Oper.wp
  simp [execOp, ho, resolve, invoke, builtin, hx, hy, hrun, Result.andThen]
  exact h
/-- A copied program, of the call's own. -/
def CopyPR (p : Pr) (w : World) (e : Ending) (w' : World) : Prop := ∃ (at' ab : Option Addr) (ct cb : Nat),
  e = .returned (.agg #[.slice at' p.types.length ct, .slice ab p.body.length cb]) ∧ Lst w' w.heap.size w.heap.size p.types at' p.types.length ct ∧ Gr w w' none ∧ ∃ mid, w.heap.size ≤ mid ∧ Sts w' mid ab cb p.body ∧ ∀ g, ob at' = some g → g < mid
theorem copy_ret {R : Ending → World → Prop} {tmps : Array Value} {u : World} {b : Nat} {x0 x1 : Value} (hz : Zp u b x0 x1) {v0 v1 : Value} (ht : tmps.getD 2 undef = .pointer (some ⟨b, 0, none⟩)) (h : R (.returned (.agg #[v0, v1])) (put2 u b v0 v1)) :
    bodyPost Try.prog Try.f93 R .normal { tmps := tmps, defers := [] } (put2 u b v0 v1) ∧ bodyPost Try.prog Try.f93 R .ret { tmps := tmps, defers := [] } (put2 u b v0 v1) := by
  obtain ⟨c0, c1⟩ := hz.put2 v0 v1
  generalize put2 u b v0 v1 = W at *
  have ht' : tmps[2]?.getD undef = .pointer (some ⟨b, 0, none⟩) := by simpa using ht
  constructor
  · refine bodyPost_end (v := .agg #[v0, v1]) ?_ rfl h
    simp [results, Try.results93, go_sem, ht', c0, c1]
  · refine bodyPost_ret (v := .agg #[v0, v1]) ?_ rfl h
    simp [results, Try.results93, go_sem, ht', c0, c1]
set_option maxRecDepth 100000 in
set_option maxHeartbeats 8000000 in
theorem copyOf_any (p : Pr) (at' ab : Option Addr) (ct cb : Nat) (w : World) (hT : InAt w Any p.types at') (hB : SlAt w Any p.body ab) (hs : p.types.length ≤ 100000) (hc : St.count p.body ≤ 10000) :
    Calls Try.prog 93 #[.agg #[.slice at' p.types.length ct, .slice ab p.body.length cb]] w (CopyPR p w) := by
  go_enter Try.func93, Try.ntmps93
  go_upto_region 1 with fail
  obtain ⟨wA, hwA⟩ : ∃ wA : World, wA = (w.alloc (.cells #[.slice at' p.types.length ct, .slice ab p.body.length cb] 26)).alloc (.cells #[.slice none 0 0, .slice none 0 0] 26) := ⟨_, rfl⟩
  have hgA : Gr w wA none := by rw [hwA]; exact ((Gr.refl _ _).alloc _).alloc _
  have q0 : wA.cell? ⟨w.heap.size, 0, none⟩ = some (.slice at' p.types.length ct) := by rw [hwA]; exact cell_of_row _ _ _ _ _ _ (heap2_0 _ _ _)
  have q1 : wA.cell? ⟨w.heap.size, 1, none⟩ = some (.slice ab p.body.length cb) := by rw [hwA]; exact cell_of_row _ _ _ _ _ _ (heap2_0 _ _ _)
  have hPA : Zp wA (w.heap.size + 1) (.slice none 0 0) (.slice none 0 0) := by
    rw [hwA]; exact ⟨cell_of_row _ _ _ _ _ _ (heap2_1 _ _ _), cell_of_row _ _ _ _ _ _ (heap2_1 _ _ _), frz_new (heap2_1 _ _ _)⟩
  have hszA : w.heap.size + 1 < wA.heap.size := hPA.lt
  rw [← hwA]
  have HT := Lib.hid (hT.gr0 hgA)
  have HB := Lib.hid (hB.gr0 hgA)
  have HPA := Lib.hid hPA
  clear hwA hT hB hPA
  refine wp_region_held_drew (S := fun w' => Gr w w' none ∧ w'.cell? ⟨w.heap.size, 0, none⟩ = some (.slice at' p.types.length ct) ∧ w'.cell? ⟨w.heap.size, 1, none⟩ = some (.slice ab p.body.length cb)) (by kernel_rfl) (⟨hgA.drew, q0, q1⟩) (fun hHeld => ?_)
  refine wpAnyH_take (i := 1) (v := ?_) rfl (by kernel_rfl) (by kernel_rfl) (by kernel_rfl) (fun _ _ _ h => h) (Or.inl ⟨by rfl, ?_⟩) hHeld ?_
  rotate_left
  focus (intro wq hq; clear hq; go_simp; try with_reducible rfl)
  simp only [Act.put, List.getElem_toArray, List.getElem_cons_succ, List.getElem_cons_zero, List.setIfInBounds_toArray, List.set_cons_zero, List.set_cons_succ]
  refine wpAnyH_take (i := 2) (v := ?_) rfl (by kernel_rfl) (by kernel_rfl) (by kernel_rfl) (fun _ _ _ h => h) (Or.inl ⟨by rfl, ?_⟩) hHeld ?_
  rotate_left
  focus (intro wq hq; have k0 := hq.2.1; go_simp; try with_reducible rfl)
  simp only [Act.put, List.getElem_toArray, List.getElem_cons_succ, List.getElem_cons_zero, List.setIfInBounds_toArray, List.set_cons_zero, List.set_cons_succ]
  refine wpAnyH_take (i := 4) (v := ?_) rfl (by kernel_rfl) (by kernel_rfl) (by kernel_rfl) (fun _ _ _ h => h) (Or.inl ⟨by rfl, ?_⟩) hHeld ?_
  rotate_left
  focus (intro wq hq; clear hq; go_simp; try with_reducible rfl)
  simp only [Act.put, List.getElem_toArray, List.getElem_cons_succ, List.getElem_cons_zero, List.setIfInBounds_toArray, List.set_cons_zero, List.set_cons_succ]
  refine wpAnyH_take (i := 5) (v := ?_) rfl (by kernel_rfl) (by kernel_rfl) (by kernel_rfl) (fun _ _ _ h => h) (Or.inl ⟨by rfl, ?_⟩) hHeld ?_
  rotate_left
  focus (intro wq hq; have k1 := hq.2.2; go_simp; try with_reducible rfl)
  simp only [Act.put, List.getElem_toArray, List.getElem_cons_succ, List.getElem_cons_zero, List.setIfInBounds_toArray, List.set_cons_zero, List.set_cons_succ]
  refine wpAnyH_ready (rs := [0]) (by kernel_rfl) (by simp) ?_
  refine AllReadyH.cons rfl (fun K hK => ?_) AllReadyH.nil
  go_simp
  try dsimp only
  refine hK.out _ _ (⟨Gr.alloc hHeld.1 _, ((Gr.refl _ none).alloc _).cell hHeld.2.1 (by simp), ((Gr.refl _ none).alloc _).cell hHeld.2.2 (by simp)⟩) (fun hHeld => ?_)
  clear hK K
  try simp only [Act.put, List.getElem_toArray, List.getElem_cons_succ, List.getElem_cons_zero, List.setIfInBounds_toArray, List.set_cons_zero, List.set_cons_succ]
  refine wpAnyH_ready (rs := [3]) (by kernel_rfl) (by simp) ?_
  refine AllReadyH.cons rfl (fun K hK => ?_) AllReadyH.nil
  obtain ⟨ao', cap', w2, hrun, hL2, hg2⟩ := run_copy_ints (wA.drew.alloc (.cells #[] 3)) 23 wA.heap.size wA.heap.size wA.heap.size (Nat.le_refl _) (by simp) (Nat.le_refl _) (heap1_0 _ _) at' ct p.types (HT.out.gr0 ((Gr.refl _ none).drew.alloc _)) (by omega)
  refine step_run rfl (.tmp 3) (.tmp 5) 23 rfl _ _ rfl rfl _ _ hrun ?_
  try dsimp only
  refine hK.out _ _ (⟨Gr.trans0 hHeld.1 hg2, Gr.cell hg2 hHeld.2.1 (by simp), Gr.cell hg2 hHeld.2.2 (by simp)⟩) (fun hHeld => ?_)
  clear hK K
  try simp only [Act.put, List.getElem_toArray, List.getElem_cons_succ, List.getElem_cons_zero, List.setIfInBounds_toArray, List.set_cons_zero, List.set_cons_succ]
  refine wpAnyH_ready (rs := [6]) (by kernel_rfl) (by simp) ?_
  refine AllReadyH.cons rfl (fun K hK => ?_) AllReadyH.nil
  go_simp
  refine (copy_all (St.count p.body) hc p.body ab cb _ (Nat.le_refl _) (HB.out.gr0 (((Gr.refl wA none).drew.alloc _).trans0 hg2))).mono ?_
  rintro e w3 ⟨a3, c3, rfl, hS3, hg3⟩
  have HP3 := Lib.hid ((HPA.out.gr (((Gr.refl wA none).drew.alloc _).trans0 hg2) (by simp)).gr hg3 (by simp))
  clear hrun
  try dsimp only
  refine hK.out _ _ (⟨Gr.trans0 hHeld.1 hg3, Gr.cell hg3 hHeld.2.1 (by simp), Gr.cell hg3 hHeld.2.2 (by simp)⟩) (fun hHeld => ?_)
  clear hK K
  try simp only [Act.put, List.getElem_toArray, List.getElem_cons_succ, List.getElem_cons_zero, List.setIfInBounds_toArray, List.set_cons_zero, List.set_cons_succ]
  refine wpAnyH_take (i := 7) (v := ?_) rfl (by kernel_rfl) (by kernel_rfl) (by kernel_rfl) (fun _ _ _ h => h) (Or.inl ⟨by rfl, ?_⟩) hHeld ?_
  rotate_left
  focus (intro wq hq; clear hq; go_simp; try with_reducible rfl)
  simp only [Act.put, List.getElem_toArray, List.getElem_cons_succ, List.getElem_cons_zero, List.setIfInBounds_toArray, List.set_cons_zero, List.set_cons_succ]
  refine wpAnyH_ready (rs := [8]) (by kernel_rfl) (by simp) ?_
  refine AllReadyH.cons rfl (fun K hK => ?_) AllReadyH.nil
  obtain ⟨z0, z1, zf⟩ := HP3.out
  go_simp
  try dsimp only
  refine hK.out _ _ (⟨put2_gr hHeld.1 (by show w.heap.size ≤ w.heap.size + 1; omega), (put2_own _ _ _ _).cell hHeld.2.1 (by simp), (put2_own _ _ _ _).cell hHeld.2.2 (by simp)⟩) (fun hHeld => ?_)
  clear hK K
  try simp only [Act.put, List.getElem_toArray, List.getElem_cons_succ, List.getElem_cons_zero, List.setIfInBounds_toArray, List.set_cons_zero, List.set_cons_succ]
  refine wpAnyH_done (by kernel_rfl) ?_ _
  have hsz2 : wA.heap.size ≤ w2.heap.size := by have := hg2.size; simp at this; omega
  have HDJ := Lib.hid (show ∀ g : Nat, ob ao' = some g → g < w2.heap.size from fun g h1 => (hL2.own g h1).2)
  have hL3 := (hL2.gr hg3).far (put2_own w3 (w.heap.size + 1) (.slice ao' p.types.length cap') (.slice a3 p.body.length c3)) (fun r e => by cases e; omega)
  have hS4 := hS3.gr (put2_own w3 (w.heap.size + 1) (.slice ao' p.types.length cap') (.slice a3 p.body.length c3)) (fun r e => by cases e; omega)
  have HR := Lib.hid (show CopyPR p w (.returned (.agg #[.slice ao' p.types.length cap', .slice a3 p.body.length c3])) (put2 w3 (w.heap.size + 1) (.slice ao' p.types.length cap') (.slice a3 p.body.length c3)) from
    ⟨ao', a3, cap', c3, rfl, ⟨hL3.1, Nat.le_refl _, hL3.2.2.elim (fun ⟨h1, h2, h3⟩ => .inl ⟨h1, h2, fun g hg => ⟨by have := (h3 g hg).1; omega, (h3 g hg).2⟩⟩) (fun h4 => .inr (own_mono h4 (by omega)))⟩, hHeld.1, w2.heap.size, by omega, hS4, HDJ.out⟩)
  clear hL3 hS4 hL2 hS3
  go_wp2_with fail
  exact (copy_ret (b := w.heap.size + 1) HP3.out rfl HR.out).2
end Go.Proofs.Ytadidppbhpdnkaa
