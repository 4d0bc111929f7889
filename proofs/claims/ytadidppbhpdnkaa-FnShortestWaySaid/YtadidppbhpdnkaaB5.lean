/- Walks of the parser of lists of statements, weakly. -/
import Derived.Test.YtadidppbhpdnkaaB4

namespace Go.Proofs.Ytadidppbhpdnkaa

open Go.RowKit

set_option maxRecDepth 100000 in
set_option maxHeartbeats 8000000 in
theorem list_step (d : Nat) (_hd : d ≤ 100) (hP : PC d) : LC d := by
  intro s a w hs h0 h1
  have HP := Lib.hid hP
  clear hP
  have hg1 : ∀ o, Gr w (w.alloc o) none := fun o => (Gr.refl _ _).alloc _
  have HE := Lib.hid (Sts.empty (w := w.alloc (.cells #[] 96)) (Nat.le_refl w.heap.size) (heap1_0 _ _))
  by_cases he : a = s.size
  · go_enter Try.func91, Try.ntmps91
    go_wp2_with fail
    go_ret2
    exact ⟨[], _, 0, a, rfl, by simp [SlAt], hg1 _, .inr ⟨by omega, by omega, by omega, by simp [St.count]⟩⟩
  · go_enter Try.func91, Try.ntmps91
    go_wp2_with fail
    refine (l1At_any s { data := #[125] } a _ (by omega) (by decide) (by omega) (by omega)).mono ?_
    rintro e w' ⟨b1, rfl, hb1, rfl⟩
    cases b1
    · clear hb1
      go_wp2_with fail
      go_loopw [1, 8] (fun k' o wr => ∃ (k : Int) (L : List St) (ao : Option Addr) (cap n : Nat), k' = .int .i64 k ∧ L.length = n ∧ o = .slice ao n cap ∧ a ≤ k ∧ k ≤ s.size ∧ Sts wr w.heap.size ao cap L ∧ (St.count L : Int) ≤ k - a ∧ Gr w wr none) (fun k' _ _ => s.size - (intOf k').toNat)
      case atStart => exact ⟨a, [], _, 0, 0, rfl, rfl, rfl, by omega, by omega, HE.out, by simp [St.count], hg1 _⟩
      case round =>
        obtain ⟨k, L, ao, cap, n, rfl, hL, rfl, hk0, hk1, hS, hc, hg⟩ := hrel
        have hlc := length_count L
        have hn : n ≤ 600 := by omega
        have HLn := Lib.hid hL
        have HS := Lib.hid hS
        have HC := Lib.hid hc
        have hk2 : 0 ≤ k := by omega
        clear hL hS hc hlc
        go_wp2_with fail
        refine (HP.out s k _ hs (by omega) (by omega)).mono ?_
        rintro e w1 ⟨st, r, next, rfl, hrow, hgr, hn1, hn2, hn3⟩
        have hG1 : Gr w w1 none := hg.trans0 hgr
        have HN := Lib.hid hn3
        have hrow' : StRow w1 (Inn w.heap.size ao) st r := hrow.sub fun b o hb => ⟨by have := hg.size; unfold New at hb; omega, fun e => by have := (HS.out.own b e).2; unfold New at hb; omega⟩
        have HS1 := Lib.hid (HS.out.gr0 hgr)
        obtain ⟨q1, q2, at', ct, ae, ce, rfl, q3, q4⟩ := hrow
        have HR := Lib.hid hrow'
        clear hrow' q1 q2 q3 q4 hn3 hgr
        have hsz1 : w.heap.size ≤ w1.heap.size := hG1.size
        have HSZ := Lib.hid hsz1
        have HGA := Lib.hid (show ∀ o o', Gr w1 ((w1.alloc o).alloc o') none from fun o o' => ((Gr.refl _ _).alloc _).alloc _)
        clear hsz1
        by_cases hneg : next < 0
        · clear hn1 hn2
          go_wp2_with (at_builtin; refine app_sts _ rfl (.tmp 32) (.tmp 34) rfl w.heap.size ao cap L n HLn.out rfl (HS1.out.gr0 (HGA.out _ _)) (by omega) (by have := HSZ.out; simp; omega) st _ ⟨w1.heap.size + 1, 0, none⟩ _ rfl (row_cells (heap2_1 _ _ _)) (HR.out.gr0 (HGA.out _ _)) ?_; rintro g cap' w2 hS2 hg2 ho2)
          have hG2 : Gr w w2 none := ((hG1.alloc _).alloc _).trans hg2 (fun r hr => .inr (HS.out.own r hr).1)
          go_ret2
          exact ⟨[], none, 0, -1, rfl, by simp [SlAt], hG2, .inl ⟨rfl, rfl⟩⟩
        · have hnn : 0 ≤ next := by omega
          by_cases hbig : s.size < next
          · go_wp2_with (at_builtin; refine app_sts _ rfl (.tmp 32) (.tmp 34) rfl w.heap.size ao cap L n HLn.out rfl (HS1.out.gr0 (HGA.out _ _)) (by omega) (by have := HSZ.out; simp; omega) st _ ⟨w1.heap.size + 1, 0, none⟩ _ rfl (row_cells (heap2_1 _ _ _)) (HR.out.gr0 (HGA.out _ _)) ?_; rintro g cap' w2 hS2 hg2 ho2)
            have hG2 : Gr w w2 none := ((hG1.alloc _).alloc _).trans hg2 (fun r hr => .inr (HS.out.own r hr).1)
            go_ret2
            exact ⟨[], none, 0, -1, rfl, by simp [SlAt], hG2, .inl ⟨rfl, rfl⟩⟩
          · have hle : next ≤ s.size := by omega
            have hN := HN.out hnn
            have HN2 := Lib.hid hN
            have hL1 := Lib.hid (show (L ++ [st]).length = n + 1 by rw [List.length_append, HLn.out]; rfl)
            have hC1 := Lib.hid (show (St.count (L ++ [st]) : Int) ≤ next - a by have := HC.out; have := hN.2; rw [count_app, count_one]; omega)
            have hkn := hN.1
            clear hN
            go_wp2_with (at_builtin; refine app_sts _ rfl (.tmp 32) (.tmp 34) rfl w.heap.size ao cap L n HLn.out rfl (HS1.out.gr0 (HGA.out _ _)) (by omega) (by have := HSZ.out; simp; omega) st _ ⟨w1.heap.size + 1, 0, none⟩ _ rfl (row_cells (heap2_1 _ _ _)) (HR.out.gr0 (HGA.out _ _)) ?_; rintro g cap' w2 hS2 hg2 ho2)
            have hG2 : Gr w w2 none := ((hG1.alloc _).alloc _).trans hg2 (fun r hr => .inr (HS.out.own r hr).1)
            refine (l1At_any s { data := #[59] } next _ (by omega) (by decide) (by omega) (by omega)).mono ?_
            rintro e w' ⟨b2, rfl, hb2, rfl⟩
            cases b2
            · clear hb2
              go_wp2_with fail
              go_ret2
              exact ⟨L ++ [st], _, cap', next, by rw [hL1.out]; rfl, hS2.at, hG2, .inr ⟨h0, by omega, hle, by have := hC1.out; omega⟩⟩
            · have hy := hb2 rfl
              rw [show (ByteArray.mk #[59]).size = 1 from rfl] at hy
              clear hb2
              go_wp2_with fail
              go_roundw
              case rel => exact ⟨next + 1, L ++ [st], _, cap', n + 1, rfl, hL1.out, rfl, by omega, by omega, hS2, by have := hC1.out; omega, hG2⟩
              case measure => simp [intOf]; omega
    · have hy := hb1 rfl
      rw [show (ByteArray.mk #[125]).size = 1 from rfl] at hy
      clear hb1
      go_wp2_with fail
      go_ret2
      exact ⟨[], _, 0, a, rfl, by simp [SlAt], hg1 _, .inr ⟨by omega, by omega, by omega, by simp [St.count]⟩⟩
theorem list_all : ∀ d : Nat, d ≤ 100 → LC d
  | 0, h => list_step 0 h (parse_step 0 h (by simpa using braces_none))
  | d + 1, h => list_step (d + 1) h (parse_step (d + 1) h (by
      have := braces_step d (by omega) (list_all d (by omega))
      rw [show ((d + 1 : Nat) : Int) - 1 = d from by omega]
      exact this))
end Go.Proofs.Ytadidppbhpdnkaa
