/- Walks of the parser of statements, weakly. -/
import Derived.Test.YtadidppbhpdnkaaB3

namespace Go.Proofs.Ytadidppbhpdnkaa

open Go.RowKit

/-- Six cells are stored. -/
def put6 (w : World) (b : Nat) (v0 v1 v2 v3 v4 v5 : Value) : World :=
  (((((w.setCell ⟨b, 0, none⟩ v0).setCell ⟨b, 1, none⟩ v1).setCell ⟨b, 2, none⟩ v2).setCell ⟨b, 3, none⟩ v3).setCell ⟨b, 4, none⟩ v4).setCell ⟨b, 5, none⟩ v5
theorem put6_own (w : World) (b : Nat) (v0 v1 v2 v3 v4 v5 : Value) : Gr w (put6 w b v0 v1 v2 v3 v4 v5) (some b) :=
  ((((((Gr.refl w (some b)).setOwn rfl v0).setOwn rfl v1).setOwn rfl v2).setOwn rfl v3).setOwn rfl v4).setOwn rfl v5
theorem put6_gr {a w : World} {b : Nat} {v0 v1 v2 v3 v4 v5 : Value} (h : Gr a w none) (hb : a.heap.size ≤ b) : Gr a (put6 w b v0 v1 v2 v3 v4 v5) none :=
  h.trans (put6_own w b v0 v1 v2 v3 v4 v5) (fun r hr => .inr (by cases hr; exact hb))
theorem SlAt.put6 {w : World} {b : Nat} {v0 v1 v2 v3 v4 v5 : Value} {l : List St} {a : Option Addr} (h : SlAt w (New (b + 1)) l a) : SlAt (put6 w b v0 v1 v2 v3 v4 v5) (New b) l a :=
  (SlAt.far h (put6_own w b v0 v1 v2 v3 v4 v5) (fun r hr => by cases hr; omega)).sub fun k _ hk => by unfold New at *; omega
theorem readS_simple {z : Nat} {a : Int} {w w' : World} (op x y n next : Int) (hg : Gr w w' none) (h1 : next ≤ z + 10) (h2 : -1 ≤ next) (h3 : 0 ≤ next → a + 1 ≤ next) :
    ReadS z a w (.returned (.tuple #[.agg #[.int .i64 op, .int .i64 x, .int .i64 y, .int .i64 n, .slice none 0 0, .slice none 0 0], .int .i64 next])) w' :=
  ⟨.mk op x y n [] [], _, next, rfl, ⟨by simp [St.thn, maxLen], by simp [St.els, maxLen], none, 0, none, 0, rfl, by simp [St.thn, SlAt], by simp [St.els, SlAt]⟩, hg, h1, h2, fun h => ⟨by have := h3 h; omega, by have := h3 h; simp [St.inner, St.count]; omega⟩⟩
set_option maxRecDepth 100000 in
set_option maxHeartbeats 8000000 in
theorem parse_step (d : Nat) (hd : d ≤ 100) (hB : BC ((d : Int) - 1)) : PC d := by
  intro s a w hs h0 h1
  have HB := Lib.hid hB
  clear hB
  have hg1 : ∀ o, Gr w (w.alloc o) none := fun o => (Gr.refl _ _).alloc _
  go_enter Try.func99, Try.ntmps99
  go_wp2_with fail
  refine (l1At_any s { data := #[100, 114, 111, 112, 32] } a _ (by omega) (by decide) (by omega) (by omega)).mono ?_
  rintro e w' ⟨b1, rfl, hb1, rfl⟩
  cases b1
  · clear hb1
    go_wp2_with fail
    refine (l1At_any s { data := #[108, 111, 111, 112, 123] } a _ (by omega) (by decide) (by omega) (by omega)).mono ?_
    rintro e w' ⟨b2, rfl, hb2, rfl⟩
    cases b2
    · clear hb2
      go_wp2_with fail
      refine (l1At_any s { data := #[105, 102, 123] } a _ (by omega) (by decide) (by omega) (by omega)).mono ?_
      rintro e w' ⟨b3, rfl, hb3, rfl⟩
      cases b3
      · clear hb3
        go_wp2_with fail
        refine (l1At_any s { data := #[42] } a _ (by omega) (by decide) (by omega) (by omega)).mono ?_
        rintro e w' ⟨b4, rfl, hb4, rfl⟩
        cases b4
        · clear hb4
          go_wp2_with fail
          refine (l1Var_any s a _ (by omega) (by omega) (by omega)).mono ?_
          rintro e w' ⟨x, rfl, rfl⟩
          by_cases hx : x < 0
          · go_wp2_with fail
            refine bodyPost_ret (v := .tuple #[.agg #[.int .i64 0, .int .i64 0, .int .i64 0, .int .i64 0, .slice none 0 0, .slice none 0 0], .int .i64 (-1)]) (by simp [results, Try.results99, go_sem]) rfl ?_
            exact readS_simple 0 0 0 0 (-1) (hg1 _) (by omega) (by omega) (by omega)
          · go_wp2_with fail
            refine (l1At_any s { data := #[61] } (a + 1) _ (by omega) (by decide) (by omega) (by omega)).mono ?_
            rintro e w' ⟨b5, rfl, hb5, rfl⟩
            cases b5
            · clear hb5
              go_wp2_with fail
              refine bodyPost_ret (v := .tuple #[.agg #[.int .i64 0, .int .i64 0, .int .i64 0, .int .i64 0, .slice none 0 0, .slice none 0 0], .int .i64 (-1)]) (by simp [results, Try.results99, go_sem]) rfl ?_
              exact readS_simple 0 0 0 0 (-1) (hg1 _) (by omega) (by omega) (by omega)
            · have hy := hb5 rfl
              rw [show (ByteArray.mk #[61]).size = 1 from rfl] at hy
              clear hb5
              go_wp2_with fail
              refine (l1At_any s { data := #[98, 111, 120, 32] } (a + 2) _ (by omega) (by decide) (by omega) (by omega)).mono ?_
              rintro e w' ⟨b6, rfl, hb6, rfl⟩
              cases b6
              · clear hb6
                go_wp2_with fail
                refine (l1At_any s { data := #[38, 109, 117, 116, 32] } (a + 2) _ (by omega) (by decide) (by omega) (by omega)).mono ?_
                rintro e w' ⟨b7, rfl, hb7, rfl⟩
                cases b7
                · clear hb7
                  go_wp2_with fail
                  refine (l1At_any s { data := #[38] } (a + 2) _ (by omega) (by decide) (by omega) (by omega)).mono ?_
                  rintro e w' ⟨b8, rfl, hb8, rfl⟩
                  cases b8
                  · clear hb8
                    go_wp2_with fail
                    refine (l1At_any s { data := #[42] } (a + 2) _ (by omega) (by decide) (by omega) (by omega)).mono ?_
                    rintro e w' ⟨b9, rfl, hb9, rfl⟩
                    cases b9
                    · clear hb9
                      go_wp2_with fail
                      refine (l1Digit_any s (a + 2) _ (by omega) (by omega) (by omega)).mono ?_
                      rintro e w' ⟨n, rfl, rfl⟩
                      by_cases hn : 0 ≤ n
                      · skip
                        go_wp2_with fail
                        refine (l1Digit_any s (a + 2) _ (by omega) (by omega) (by omega)).mono ?_
                        rintro e w' ⟨n', rfl, rfl⟩
                        go_wp2_with fail
                        refine bodyPost_ret (v := .tuple #[.agg #[.int .i64 1, .int .i64 x, .int .i64 0, .int .i64 n', .slice none 0 0, .slice none 0 0], .int .i64 (a + 3)]) (by simp [results, Try.results99, go_sem]) rfl ?_
                        exact readS_simple 1 x 0 n' (a + 3) (hg1 _) (by omega) (by omega) (by omega)
                      · skip
                        go_wp2_with fail
                        refine (l1Var_any s (a + 2) _ (by omega) (by omega) (by omega)).mono ?_
                        rintro e w' ⟨y, rfl, rfl⟩
                        go_wp2_with fail
                        refine bodyPost_ret (v := .tuple #[.agg #[.int .i64 3, .int .i64 x, .int .i64 y, .int .i64 0, .slice none 0 0, .slice none 0 0], .int .i64 (a + 3)]) (by simp [results, Try.results99, go_sem]) rfl ?_
                        exact readS_simple 3 x y 0 (a + 3) (hg1 _) (by omega) (by omega) (by omega)
                    · have hy := hb9 rfl
                      rw [show (ByteArray.mk #[42]).size = 1 from rfl] at hy
                      clear hb9
                      go_wp2_with fail
                      refine (l1Var_any s (a + 3) _ (by omega) (by omega) (by omega)).mono ?_
                      rintro e w' ⟨y, rfl, rfl⟩
                      go_wp2_with fail
                      refine bodyPost_ret (v := .tuple #[.agg #[.int .i64 6, .int .i64 x, .int .i64 y, .int .i64 0, .slice none 0 0, .slice none 0 0], .int .i64 (a + 4)]) (by simp [results, Try.results99, go_sem]) rfl ?_
                      exact readS_simple 6 x y 0 (a + 4) (hg1 _) (by omega) (by omega) (by omega)
                  · have hy := hb8 rfl
                    rw [show (ByteArray.mk #[38]).size = 1 from rfl] at hy
                    clear hb8
                    go_wp2_with fail
                    refine (l1Var_any s (a + 3) _ (by omega) (by omega) (by omega)).mono ?_
                    rintro e w' ⟨y, rfl, rfl⟩
                    go_wp2_with fail
                    refine bodyPost_ret (v := .tuple #[.agg #[.int .i64 4, .int .i64 x, .int .i64 y, .int .i64 0, .slice none 0 0, .slice none 0 0], .int .i64 (a + 4)]) (by simp [results, Try.results99, go_sem]) rfl ?_
                    exact readS_simple 4 x y 0 (a + 4) (hg1 _) (by omega) (by omega) (by omega)
                · have hy := hb7 rfl
                  rw [show (ByteArray.mk #[38, 109, 117, 116, 32]).size = 5 from rfl] at hy
                  clear hb7
                  go_wp2_with fail
                  refine (l1Var_any s (a + 7) _ (by omega) (by omega) (by omega)).mono ?_
                  rintro e w' ⟨y, rfl, rfl⟩
                  go_wp2_with fail
                  refine bodyPost_ret (v := .tuple #[.agg #[.int .i64 5, .int .i64 x, .int .i64 y, .int .i64 0, .slice none 0 0, .slice none 0 0], .int .i64 (a + 8)]) (by simp [results, Try.results99, go_sem]) rfl ?_
                  exact readS_simple 5 x y 0 (a + 8) (hg1 _) (by omega) (by omega) (by omega)
              · have hy := hb6 rfl
                rw [show (ByteArray.mk #[98, 111, 120, 32]).size = 4 from rfl] at hy
                clear hb6
                go_wp2_with fail
                refine (l1Digit_any s (a + 6) _ (by omega) (by omega) (by omega)).mono ?_
                rintro e w' ⟨n, rfl, rfl⟩
                go_wp2_with fail
                refine bodyPost_ret (v := .tuple #[.agg #[.int .i64 2, .int .i64 x, .int .i64 0, .int .i64 n, .slice none 0 0, .slice none 0 0], .int .i64 (a + 7)]) (by simp [results, Try.results99, go_sem]) rfl ?_
                exact readS_simple 2 x 0 n (a + 7) (hg1 _) (by omega) (by omega) (by omega)
        · have hy := hb4 rfl
          rw [show (ByteArray.mk #[42]).size = 1 from rfl] at hy
          clear hb4
          go_wp2_with fail
          refine (l1Var_any s (a + 1) _ (by omega) (by omega) (by omega)).mono ?_
          rintro e w' ⟨x, rfl, rfl⟩
          go_wp2_with fail
          refine (l1Var_any s (a + 3) _ (by omega) (by omega) (by omega)).mono ?_
          rintro e w' ⟨y, rfl, rfl⟩
          go_wp2_with fail
          refine bodyPost_ret (v := .tuple #[.agg #[.int .i64 7, .int .i64 x, .int .i64 y, .int .i64 0, .slice none 0 0, .slice none 0 0], .int .i64 (a + 4)]) (by simp [results, Try.results99, go_sem]) rfl ?_
          exact readS_simple 7 x y 0 (a + 4) (hg1 _) (by omega) (by omega) (by omega)
      · have hy := hb3 rfl
        rw [show (ByteArray.mk #[105, 102, 123]).size = 3 from rfl] at hy
        clear hb3
        go_wp2_with fail
        refine (HB.out s (a + 2) _ hs (by omega) (by omega)).mono ?_
        rintro e w1 ⟨l1, ao1, cap1, n1, rfl, hl1, hgr1, hc1⟩
        have hn1 : -1 ≤ n1 ∧ n1 ≤ 600 := by have h600 : (s.size : Int) ≤ 600 := (by omega); rcases hc1 with ⟨h, _⟩ | ⟨_, _, _, _⟩ <;> omega
        obtain ⟨hn1a, hn1b⟩ := hn1
        have hn1z : n1 ≤ s.size := by rcases hc1 with ⟨h, _⟩ | ⟨_, _, _, _⟩ <;> omega
        have HC1 := Lib.hid hc1
        clear hc1
        go_wp2_with fail
        refine (HB.out s n1 _ hs (by omega) (by omega)).mono ?_
        rintro e w2 ⟨l2, ao2, cap2, n2, rfl, hl2, hgr2, hc2⟩
        have hn2 : -1 ≤ n2 ∧ n2 ≤ 600 := by rcases hc2 with ⟨h, _⟩ | ⟨_, _, _, _⟩ <;> omega
        obtain ⟨hn2a, hn2b⟩ := hn2
        have hn2z : n2 ≤ s.size := by rcases hc2 with ⟨h, _⟩ | ⟨_, _, _, _⟩ <;> omega
        have HC2 := Lib.hid hc2
        clear hc2
        have hG1 : Gr w w1 none := (hg1 _).trans0 hgr1
        have hG2 : Gr w w2 none := hG1.trans0 hgr2
        have hm1 : l1.length ≤ maxLen := by have := length_count l1; have := HC1.out; unfold maxLen; rcases this with ⟨_, rfl⟩ | ⟨_, _, _, _⟩ <;> simp <;> omega
        have hm2 : l2.length ≤ maxLen := by have := length_count l2; have := HC2.out; unfold maxLen; rcases this with ⟨_, rfl⟩ | ⟨_, _, _, _⟩ <;> simp <;> omega
        have HL1 := Lib.hid (show SlAt w2 (New (w.heap.size + 1)) l1 ao1 from (hl1.sub fun b o hb => by unfold New at *; simp at hb; omega).gr0 hgr2)
        have HL2 := Lib.hid (show SlAt w2 (New (w.heap.size + 1)) l2 ao2 from hl2.sub fun b o hb => by have := hgr1.size; simp at this; unfold New at *; omega)
        have hrr := hgr1.trans0 hgr2
        have hr2 : w2.heap[w.heap.size]? = some (.cells #[.int .i64 0, .int .i64 0, .int .i64 0, .int .i64 0, .slice none 0 0, .slice none 0 0] 96 (0, 0)) := (hrr.block _ (by simp) (by simp)).trans (heap1_0 _ _)
        have z0 := cell_of_row _ _ 0 _ _ _ hr2
        have z1 := cell_of_row _ _ 1 _ _ _ hr2
        have z2 := cell_of_row _ _ 2 _ _ _ hr2
        have z3 := cell_of_row _ _ 3 _ _ _ hr2
        have z4 := cell_of_row _ _ 4 _ _ _ hr2
        have z5 := cell_of_row _ _ 5 _ _ _ hr2
        have zf : ∀ o, w2.frozen? ⟨w.heap.size, o, none⟩ = false := fun o => by simp [World.frozen?, hr2]
        clear hr2
        simp at z0 z1 z2 z3 z4 z5
        clear hl1 hl2
        go_wp2_with fail
        refine bodyPost_ret (v := .tuple #[.agg #[.int .i64 9, .int .i64 0, .int .i64 0, .int .i64 0, .slice ao1 l1.length cap1, .slice ao2 l2.length cap2], .int .i64 n2]) (by simp [results, Try.results99, go_sem, z0, z1, z2, z3, z4, z5]) rfl ?_
        show ReadS s.size a w _ (put6 w2 w.heap.size _ _ _ _ _ _)
        exact ⟨.mk 9 0 0 0 l1 l2, _, n2, rfl, ⟨hm1, hm2, ao1, cap1, ao2, cap2, rfl, HL1.out.put6, HL2.out.put6⟩, put6_gr hG2 (Nat.le_refl _), by omega, by omega, fun h => by have h7 := HC1.out; have h8 := HC2.out; simp only [St.inner]; rcases h7 with ⟨h3, h3'⟩ | ⟨hz3, h3, h3', h3''⟩ <;> rcases h8 with ⟨h4, h4'⟩ | ⟨hz4, h4, h4', h4''⟩ <;> omega⟩
    · have hy := hb2 rfl
      rw [show (ByteArray.mk #[108, 111, 111, 112, 123]).size = 5 from rfl] at hy
      clear hb2
      go_wp2_with fail
      refine (HB.out s (a + 4) _ hs (by omega) (by omega)).mono ?_
      rintro e w1 ⟨l1, ao1, cap1, n1, rfl, hl1, hgr1, hc1⟩
      have hn1 : -1 ≤ n1 ∧ n1 ≤ 600 := by have h600 : (s.size : Int) ≤ 600 := (by omega); rcases hc1 with ⟨h, _⟩ | ⟨_, _, _, _⟩ <;> omega
      obtain ⟨hn1a, hn1b⟩ := hn1
      have hn1z : n1 ≤ s.size := by rcases hc1 with ⟨h, _⟩ | ⟨_, _, _, _⟩ <;> omega
      have HC1 := Lib.hid hc1
      clear hc1
      have hG1 : Gr w w1 none := (hg1 _).trans0 hgr1
      have hm1 : l1.length ≤ maxLen := by have := length_count l1; have := HC1.out; unfold maxLen; rcases this with ⟨_, rfl⟩ | ⟨_, _, _, _⟩ <;> simp <;> omega
      have HL1 := Lib.hid (show SlAt w1 (New (w.heap.size + 1)) l1 ao1 from hl1.sub fun b o hb => by unfold New at *; simp at hb; omega)
      have hr1 : w1.heap[w.heap.size]? = some (.cells #[.int .i64 0, .int .i64 0, .int .i64 0, .int .i64 0, .slice none 0 0, .slice none 0 0] 96 (0, 0)) := (hgr1.block _ (by simp) (by simp)).trans (heap1_0 _ _)
      have z0 := cell_of_row _ _ 0 _ _ _ hr1
      have z1 := cell_of_row _ _ 1 _ _ _ hr1
      have z2 := cell_of_row _ _ 2 _ _ _ hr1
      have z3 := cell_of_row _ _ 3 _ _ _ hr1
      have z4 := cell_of_row _ _ 4 _ _ _ hr1
      have z5 := cell_of_row _ _ 5 _ _ _ hr1
      have zf : ∀ o, w1.frozen? ⟨w.heap.size, o, none⟩ = false := fun o => by simp [World.frozen?, hr1]
      clear hr1
      simp at z0 z1 z2 z3 z4 z5
      clear hl1
      go_wp2_with fail
      refine bodyPost_ret (v := .tuple #[.agg #[.int .i64 10, .int .i64 0, .int .i64 0, .int .i64 0, .slice ao1 l1.length cap1, .slice none 0 0], .int .i64 n1]) (by simp [results, Try.results99, go_sem, z0, z1, z2, z3, z4, z5]) rfl ?_
      show ReadS s.size a w _ (put6 w1 w.heap.size _ _ _ _ _ _)
      exact ⟨.mk 10 0 0 0 l1 [], _, n1, rfl, ⟨hm1, by simp [St.els, maxLen], ao1, cap1, none, 0, rfl, HL1.out.put6, by simp [St.els, SlAt]⟩, put6_gr hG1 (Nat.le_refl _), by omega, by omega, fun h => by have h7 := HC1.out; simp only [St.inner, St.count]; rcases h7 with ⟨h3, h3'⟩ | ⟨hz3, h3, h3', h3''⟩ <;> omega⟩
  · have hy := hb1 rfl
    rw [show (ByteArray.mk #[100, 114, 111, 112, 32]).size = 5 from rfl] at hy
    clear hb1
    go_wp2_with fail
    refine (l1Var_any s (a + 5) _ (by omega) (by omega) (by omega)).mono ?_
    rintro e w' ⟨x, rfl, rfl⟩
    go_wp2_with fail
    refine bodyPost_ret (v := .tuple #[.agg #[.int .i64 8, .int .i64 x, .int .i64 0, .int .i64 0, .slice none 0 0, .slice none 0 0], .int .i64 (a + 6)]) (by simp [results, Try.results99, go_sem]) rfl ?_
    exact readS_simple 8 x 0 0 (a + 6) (hg1 _) (by omega) (by omega) (by omega)
end Go.Proofs.Ytadidppbhpdnkaa
