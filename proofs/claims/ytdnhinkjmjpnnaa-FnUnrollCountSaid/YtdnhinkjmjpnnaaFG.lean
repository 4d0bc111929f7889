/- Own copies of statements, as the program makes them. -/
import Derived.Test.YtdnhinkjmjpnnaaFE

namespace Go.Proofs.Ytdnhinkjmjpnnaa

open Go.RowKit

def OwnC (n : Nat) : Prop := ∀ (l : List St) (a : Option Addr) (c : Nat) (w : World), St.count l ≤ n → SlAt w Any l a → Calls Try.prog 124 #[.slice a l.length c] w (CopyR l w)
set_option maxRecDepth 100000 in
set_option maxHeartbeats 8000000 in
theorem own_step (n : Nat) (hn : n ≤ 10000) (hA : ∀ m, m < n → OwnC m) : OwnC n := by
  intro l a c w hcn hl
  have HA := Lib.hid hA
  have hlc := length_count l
  have HE := Lib.hid (Sts.nil w w.heap.size)
  clear hA
  go_enter Try.func124, Try.ntmps124
  go_wp2_with fail
  go_loopw [3, 8] (fun v i wr => ∃ (k : Nat) (ao : Option Addr) (cap m : Nat), k ≤ l.length ∧ i = .int .i64 k ∧ m = k ∧ v = .slice ao m cap ∧ Sts wr w.heap.size ao cap (l.take k) ∧ Gr w wr none) (fun _ i _ => l.length - (intOf i).toNat)
  case atStart => exact ⟨0, none, 0, 0, Nat.zero_le _, rfl, rfl, rfl, HE.out, Gr.refl _ _⟩
  case round =>
    obtain ⟨k, ao, cap, m, hk, rfl, hm, rfl, hS, hg⟩ := hrel
    have HM := Lib.hid hm
    have hm1 : m ≤ 10000 := by omega
    have HOWN := Lib.hid (show ∀ g, ob ao = some g → w.heap.size ≤ g ∧ g < wr.heap.size from hS.own)
    have HS := Lib.hid hS
    clear hm hS
    by_cases hlt : k < l.length
    · obtain ⟨b, off, rfl, hst⟩ := (hl.gr0 hg).at hlt
      have hin := count_get hlt
      have hTK := List.take_succ_eq_append_getElem hlt
      obtain ⟨q, hq⟩ : ∃ q, l[k] = q := ⟨_, rfl⟩
      rw [hq] at hst hin hTK
      have HTK := Lib.hid hTK
      clear hq hTK
      obtain ⟨op, x, y, kk, t, e⟩ := q
      obtain ⟨_, htm, hem, at', ct, ae, ce, c0, c1, c2, c3, c4, c5, r4, r5⟩ := hst.out
      simp only [St.op, St.x, St.y, St.n, St.thn, St.els] at c0 c1 c2 c3 c4 c5 r4 r5 htm hem
      have hin' : St.count t + St.count e + 1 ≤ St.count l := hin
      have HIN := Lib.hid hin'
      clear hst hin hin'
      go_upto_region 5 with fail
      obtain ⟨wA, hwA⟩ : ∃ wA : World, wA = wr.alloc (.cells #[.int .i64 op, .int .i64 x, .int .i64 y, .int .i64 kk, .slice at' t.length ct, .slice ae e.length ce] 126) := ⟨_, rfl⟩
      have hgA : Gr wr wA none := by rw [hwA]; exact (Gr.refl _ _).alloc _
      have hzA : Z6 wA wr.heap.size (.int .i64 op) (.int .i64 x) (.int .i64 y) (.int .i64 kk) (.slice at' t.length ct) (.slice ae e.length ce) := by rw [hwA]; exact Z6.new _ _ _ _ _ _ _ _
      rw [← hwA]
      have HT := Lib.hid (r4.gr0 hgA)
      have HEE := Lib.hid (r5.gr0 hgA)
      have HGA := Lib.hid hgA
      have hsA : wr.heap.size < wA.heap.size := hzA.lt
      have hszr : w.heap.size ≤ wr.heap.size := hg.size
      have HGR := Lib.hid hg
      have HZA := Lib.hid hzA
      clear hwA c0 c1 c2 c3 c4 c5 r4 r5 hgA hg hzA
      go_cut [14, 17] (fun v14 v17 wy => ∃ (wx : World) (a1 a2 : Option Addr) (d1 d2 : Nat), wx = wy ∧ v14 = .slice a1 t.length d1 ∧ v17 = .slice a2 e.length d2 ∧ Z6 wx wr.heap.size (.int .i64 op) (.int .i64 x) (.int .i64 y) (.int .i64 kk) (.slice a1 t.length d1) (.slice a2 e.length d2) ∧ SlAt wx (New wA.heap.size) t a1 ∧ SlAt wx (New wA.heap.size) e a2 ∧ Gr wr wx none)
      case first =>
        refine wp_region_held_drew (S := fun w' => Gr wr w' none) (by kernel_rfl) (HGA.out.drew) (fun hHeld => ?_)
        refine wpAnyH_take (i := 0) (v := ?_) rfl (by kernel_rfl) (by kernel_rfl) (by kernel_rfl) (fun _ _ _ h => h) (Or.inl ⟨by rfl, ?_⟩) (hHeld) ?_
        rotate_left
        focus (intro wq hq; clear hq; go_simp; try with_reducible rfl)
        simp only [Act.put, List.getElem_toArray, List.getElem_cons_zero, List.setIfInBounds_toArray, List.set_cons_zero, List.set_cons_succ]
        refine wpAnyH_take (i := 3) (v := ?_) rfl (by kernel_rfl) (by kernel_rfl) (by kernel_rfl) (fun _ _ _ h => h) (Or.inl ⟨by rfl, ?_⟩) (hHeld) ?_
        rotate_left
        focus (intro wq hq; clear hq; go_simp; try with_reducible rfl)
        simp only [Act.put, List.getElem_toArray, List.getElem_cons_succ, List.getElem_cons_zero, List.setIfInBounds_toArray, List.set_cons_zero, List.set_cons_succ]
        clear hHeld
        have HZ0 := Lib.hid (HZA.out.gr (Gr.refl wA none).drew (by simp))
        have HG0 := Lib.hid (HGA.out.drew)
        have HGA0 := Lib.hid ((Gr.refl wA none).drew)
        refine wpAnyH_ready (rs := [1, 4]) (by kernel_rfl) (by simp) ?_
        refine (AllReadyH.cons rfl (fun K hK => ?_) (AllReadyH.cons rfl (fun K hK => ?_) AllReadyH.nil))
        · obtain ⟨z0, z1, z2, z3, z4, z5, zf⟩ := HZ0.out
          go_simp
          try dsimp only
          clear z0 z1 z2 z3 z4 z5 zf
          refine hK.out _ _ (HG0.out) (fun hHeld => ?_)
          clear hHeld hK K
          try simp only [Act.put, List.getElem_toArray, List.getElem_cons_succ, List.getElem_cons_zero, List.setIfInBounds_toArray, List.set_cons_zero, List.set_cons_succ]
          refine wpAnyH_ready (rs := [2, 4]) (by kernel_rfl) (by simp) ?_
          refine (AllReadyH.cons rfl (fun K hK => ?_) (AllReadyH.cons rfl (fun K hK => ?_) AllReadyH.nil))
          · go_simp
            refine (HA.out (St.count t) (by have := HIN.out; omega) t at' ct _ (Nat.le_refl _) (HT.out.gr0 HGA0.out)).mono ?_
            rintro e2 w2 ⟨a2, d2, rfl, hS2, hg2⟩
            have HZ2 := Lib.hid (HZ0.out.gr hg2 (by simp))
            have HG2 := Lib.hid (HG0.out.trans0 hg2)
            have HGA2 := Lib.hid (HGA0.out.trans0 hg2)
            have HN2 := Lib.hid (hS2.at.sub (D' := New wA.heap.size) fun b o hb => by have := HGA0.out.size; unfold New at *; omega)
            clear hS2 hg2
            try dsimp only
            refine hK.out _ _ (HG2.out) (fun hHeld => ?_)
            clear hHeld hK K
            try simp only [Act.put, List.getElem_toArray, List.getElem_cons_succ, List.getElem_cons_zero, List.setIfInBounds_toArray, List.set_cons_zero, List.set_cons_succ]
            refine wpAnyH_ready (rs := [4]) (by kernel_rfl) (by simp) ?_
            refine (AllReadyH.cons rfl (fun K hK => ?_) AllReadyH.nil)
            obtain ⟨z0, z1, z2, z3, z4, z5, zf⟩ := HZ2.out
            go_simp
            try dsimp only
            clear z0 z1 z2 z3 z4 z5 zf
            refine hK.out _ _ (HG2.out) (fun hHeld => ?_)
            clear hHeld hK K
            try simp only [Act.put, List.getElem_toArray, List.getElem_cons_succ, List.getElem_cons_zero, List.setIfInBounds_toArray, List.set_cons_zero, List.set_cons_succ]
            refine wpAnyH_take (i := 6) (v := ?_) rfl (by kernel_rfl) (by kernel_rfl) (by kernel_rfl) (fun _ _ _ h => h) (Or.inl ⟨by rfl, ?_⟩) (HG2.out) ?_
            rotate_left
            focus (intro wq hq; clear hq; go_simp; try with_reducible rfl)
            simp only [Act.put, List.getElem_toArray, List.getElem_cons_succ, List.getElem_cons_zero, List.setIfInBounds_toArray, List.set_cons_zero, List.set_cons_succ]
            refine wpAnyH_ready (rs := [5]) (by kernel_rfl) (by simp) ?_
            refine (AllReadyH.cons rfl (fun K hK => ?_) AllReadyH.nil)
            go_simp
            refine (HA.out (St.count e) (by have := HIN.out; omega) e ae ce _ (Nat.le_refl _) (HEE.out.gr0 HGA2.out)).mono ?_
            rintro e4 w4 ⟨a4, d4, rfl, hS4, hg4⟩
            have HZ4 := Lib.hid (HZ2.out.gr hg4 (by simp))
            have HG4 := Lib.hid (HG2.out.trans0 hg4)
            have HGA4 := Lib.hid (HGA2.out.trans0 hg4)
            have HN4 := Lib.hid (hS4.at.sub (D' := New wA.heap.size) fun b o hb => by have := HGA2.out.size; unfold New at *; omega)
            have HO4 := Lib.hid (HN2.out.gr0 hg4)
            clear hS4 hg4
            try dsimp only
            refine hK.out _ _ (HG4.out) (fun hHeld => ?_)
            clear hHeld hK K
            try simp only [Act.put, List.getElem_toArray, List.getElem_cons_succ, List.getElem_cons_zero, List.setIfInBounds_toArray, List.set_cons_zero, List.set_cons_succ]
            refine wpAnyH_ready (rs := [7]) (by kernel_rfl) (by simp) ?_
            refine (AllReadyH.cons rfl (fun K hK => ?_) AllReadyH.nil)
            obtain ⟨z0, z1, z2, z3, z4, z5, zf⟩ := HZ4.out
            have HZ5 := Lib.hid (HZ4.out.set4 (.slice a2 t.length d2))
            have HW5 := Lib.hid (own_set w4 wr.heap.size 4 (.slice a2 t.length d2))
            go_simp
            try dsimp only
            clear z0 z1 z2 z3 z4 z5 zf
            have HG5 := Lib.hid (HG4.out.trans HW5.out (fun r hr => .inr (by cases hr; exact Nat.le_refl _)))
            have HT5 := Lib.hid (HO4.out.far HW5.out (fun r hr => by cases hr; omega))
            have HE5 := Lib.hid (HN4.out.far HW5.out (fun r hr => by cases hr; omega))
            refine hK.out _ _ (HG5.out) (fun hHeld => ?_)
            clear hHeld hK K
            try simp only [Act.put, List.getElem_toArray, List.getElem_cons_succ, List.getElem_cons_zero, List.setIfInBounds_toArray, List.set_cons_zero, List.set_cons_succ]
            refine wpAnyH_take (i := 8) (v := ?_) rfl (by kernel_rfl) (by kernel_rfl) (by kernel_rfl) (fun _ _ _ h => h) (Or.inl ⟨by rfl, ?_⟩) (HG5.out) ?_
            rotate_left
            focus (intro wq hq; clear hq; go_simp; try with_reducible rfl)
            simp only [Act.put, List.getElem_toArray, List.getElem_cons_succ, List.getElem_cons_zero, List.setIfInBounds_toArray, List.set_cons_zero, List.set_cons_succ]
            refine wpAnyH_ready (rs := [9]) (by kernel_rfl) (by simp) ?_
            refine (AllReadyH.cons rfl (fun K hK => ?_) AllReadyH.nil)
            obtain ⟨z0, z1, z2, z3, z4, z5, zf⟩ := HZ5.out
            have HZ6 := Lib.hid (HZ5.out.set5 (.slice a4 e.length d4))
            have HW6 := Lib.hid (own_set (World.setCell w4 ⟨wr.heap.size, 4, none⟩ (.slice a2 t.length d2)) wr.heap.size 5 (.slice a4 e.length d4))
            go_simp
            try dsimp only
            clear z0 z1 z2 z3 z4 z5 zf
            have HG6 := Lib.hid (HG5.out.trans HW6.out (fun r hr => .inr (by cases hr; exact Nat.le_refl _)))
            have HT6 := Lib.hid (HT5.out.far HW6.out (fun r hr => by cases hr; omega))
            have HE6 := Lib.hid (HE5.out.far HW6.out (fun r hr => by cases hr; omega))
            refine hK.out _ _ (HG6.out) (fun hHeld => ?_)
            clear hHeld hK K
            try simp only [Act.put, List.getElem_toArray, List.getElem_cons_succ, List.getElem_cons_zero, List.setIfInBounds_toArray, List.set_cons_zero, List.set_cons_succ]
            refine wpAnyH_done (by kernel_rfl) ?_ _
            go_wp2_with fail
            go_meet
            exact ⟨_, _, _, _, _, rfl, rfl, rfl, HZ6.out, HT6.out, HE6.out, HG6.out⟩
          · obtain ⟨z0, z1, z2, z3, z4, z5, zf⟩ := HZ0.out
            go_simp
            try dsimp only
            clear z0 z1 z2 z3 z4 z5 zf
            refine hK.out _ _ (HG0.out) (fun hHeld => ?_)
            clear hHeld hK K
            try simp only [Act.put, List.getElem_toArray, List.getElem_cons_succ, List.getElem_cons_zero, List.setIfInBounds_toArray, List.set_cons_zero, List.set_cons_succ]
            refine wpAnyH_ready (rs := [2]) (by kernel_rfl) (by simp) ?_
            refine (AllReadyH.cons rfl (fun K hK => ?_) AllReadyH.nil)
            go_simp
            refine (HA.out (St.count t) (by have := HIN.out; omega) t at' ct _ (Nat.le_refl _) (HT.out.gr0 HGA0.out)).mono ?_
            rintro e8 w8 ⟨a8, d8, rfl, hS8, hg8⟩
            have HZ8 := Lib.hid (HZ0.out.gr hg8 (by simp))
            have HG8 := Lib.hid (HG0.out.trans0 hg8)
            have HGA8 := Lib.hid (HGA0.out.trans0 hg8)
            have HN8 := Lib.hid (hS8.at.sub (D' := New wA.heap.size) fun b o hb => by have := HGA0.out.size; unfold New at *; omega)
            clear hS8 hg8
            try dsimp only
            refine hK.out _ _ (HG8.out) (fun hHeld => ?_)
            clear hHeld hK K
            try simp only [Act.put, List.getElem_toArray, List.getElem_cons_succ, List.getElem_cons_zero, List.setIfInBounds_toArray, List.set_cons_zero, List.set_cons_succ]
            refine wpAnyH_take (i := 6) (v := ?_) rfl (by kernel_rfl) (by kernel_rfl) (by kernel_rfl) (fun _ _ _ h => h) (Or.inl ⟨by rfl, ?_⟩) (HG8.out) ?_
            rotate_left
            focus (intro wq hq; clear hq; go_simp; try with_reducible rfl)
            simp only [Act.put, List.getElem_toArray, List.getElem_cons_succ, List.getElem_cons_zero, List.setIfInBounds_toArray, List.set_cons_zero, List.set_cons_succ]
            refine wpAnyH_ready (rs := [5]) (by kernel_rfl) (by simp) ?_
            refine (AllReadyH.cons rfl (fun K hK => ?_) AllReadyH.nil)
            go_simp
            refine (HA.out (St.count e) (by have := HIN.out; omega) e ae ce _ (Nat.le_refl _) (HEE.out.gr0 HGA8.out)).mono ?_
            rintro e9 w9 ⟨a9, d9, rfl, hS9, hg9⟩
            have HZ9 := Lib.hid (HZ8.out.gr hg9 (by simp))
            have HG9 := Lib.hid (HG8.out.trans0 hg9)
            have HGA9 := Lib.hid (HGA8.out.trans0 hg9)
            have HN9 := Lib.hid (hS9.at.sub (D' := New wA.heap.size) fun b o hb => by have := HGA8.out.size; unfold New at *; omega)
            have HO9 := Lib.hid (HN8.out.gr0 hg9)
            clear hS9 hg9
            try dsimp only
            refine hK.out _ _ (HG9.out) (fun hHeld => ?_)
            clear hHeld hK K
            try simp only [Act.put, List.getElem_toArray, List.getElem_cons_succ, List.getElem_cons_zero, List.setIfInBounds_toArray, List.set_cons_zero, List.set_cons_succ]
            refine wpAnyH_ready (rs := [7]) (by kernel_rfl) (by simp) ?_
            refine (AllReadyH.cons rfl (fun K hK => ?_) AllReadyH.nil)
            obtain ⟨z0, z1, z2, z3, z4, z5, zf⟩ := HZ9.out
            have HZ10 := Lib.hid (HZ9.out.set4 (.slice a8 t.length d8))
            have HW10 := Lib.hid (own_set w9 wr.heap.size 4 (.slice a8 t.length d8))
            go_simp
            try dsimp only
            clear z0 z1 z2 z3 z4 z5 zf
            have HG10 := Lib.hid (HG9.out.trans HW10.out (fun r hr => .inr (by cases hr; exact Nat.le_refl _)))
            have HT10 := Lib.hid (HO9.out.far HW10.out (fun r hr => by cases hr; omega))
            have HE10 := Lib.hid (HN9.out.far HW10.out (fun r hr => by cases hr; omega))
            refine hK.out _ _ (HG10.out) (fun hHeld => ?_)
            clear hHeld hK K
            try simp only [Act.put, List.getElem_toArray, List.getElem_cons_succ, List.getElem_cons_zero, List.setIfInBounds_toArray, List.set_cons_zero, List.set_cons_succ]
            refine wpAnyH_take (i := 8) (v := ?_) rfl (by kernel_rfl) (by kernel_rfl) (by kernel_rfl) (fun _ _ _ h => h) (Or.inl ⟨by rfl, ?_⟩) (HG10.out) ?_
            rotate_left
            focus (intro wq hq; clear hq; go_simp; try with_reducible rfl)
            simp only [Act.put, List.getElem_toArray, List.getElem_cons_succ, List.getElem_cons_zero, List.setIfInBounds_toArray, List.set_cons_zero, List.set_cons_succ]
            refine wpAnyH_ready (rs := [9]) (by kernel_rfl) (by simp) ?_
            refine (AllReadyH.cons rfl (fun K hK => ?_) AllReadyH.nil)
            obtain ⟨z0, z1, z2, z3, z4, z5, zf⟩ := HZ10.out
            have HZ11 := Lib.hid (HZ10.out.set5 (.slice a9 e.length d9))
            have HW11 := Lib.hid (own_set (World.setCell w9 ⟨wr.heap.size, 4, none⟩ (.slice a8 t.length d8)) wr.heap.size 5 (.slice a9 e.length d9))
            go_simp
            try dsimp only
            clear z0 z1 z2 z3 z4 z5 zf
            have HG11 := Lib.hid (HG10.out.trans HW11.out (fun r hr => .inr (by cases hr; exact Nat.le_refl _)))
            have HT11 := Lib.hid (HT10.out.far HW11.out (fun r hr => by cases hr; omega))
            have HE11 := Lib.hid (HE10.out.far HW11.out (fun r hr => by cases hr; omega))
            refine hK.out _ _ (HG11.out) (fun hHeld => ?_)
            clear hHeld hK K
            try simp only [Act.put, List.getElem_toArray, List.getElem_cons_succ, List.getElem_cons_zero, List.setIfInBounds_toArray, List.set_cons_zero, List.set_cons_succ]
            refine wpAnyH_done (by kernel_rfl) ?_ _
            go_wp2_with fail
            go_meet
            exact ⟨_, _, _, _, _, rfl, rfl, rfl, HZ11.out, HT11.out, HE11.out, HG11.out⟩
        · obtain ⟨z0, z1, z2, z3, z4, z5, zf⟩ := HZ0.out
          go_simp
          try dsimp only
          clear z0 z1 z2 z3 z4 z5 zf
          refine hK.out _ _ (HG0.out) (fun hHeld => ?_)
          clear hHeld hK K
          try simp only [Act.put, List.getElem_toArray, List.getElem_cons_succ, List.getElem_cons_zero, List.setIfInBounds_toArray, List.set_cons_zero, List.set_cons_succ]
          refine wpAnyH_ready (rs := [1]) (by kernel_rfl) (by simp) ?_
          refine (AllReadyH.cons rfl (fun K hK => ?_) AllReadyH.nil)
          obtain ⟨z0, z1, z2, z3, z4, z5, zf⟩ := HZ0.out
          go_simp
          try dsimp only
          clear z0 z1 z2 z3 z4 z5 zf
          refine hK.out _ _ (HG0.out) (fun hHeld => ?_)
          clear hHeld hK K
          try simp only [Act.put, List.getElem_toArray, List.getElem_cons_succ, List.getElem_cons_zero, List.setIfInBounds_toArray, List.set_cons_zero, List.set_cons_succ]
          refine wpAnyH_ready (rs := [2]) (by kernel_rfl) (by simp) ?_
          refine (AllReadyH.cons rfl (fun K hK => ?_) AllReadyH.nil)
          go_simp
          refine (HA.out (St.count t) (by have := HIN.out; omega) t at' ct _ (Nat.le_refl _) (HT.out.gr0 HGA0.out)).mono ?_
          rintro e14 w14 ⟨a14, d14, rfl, hS14, hg14⟩
          have HZ14 := Lib.hid (HZ0.out.gr hg14 (by simp))
          have HG14 := Lib.hid (HG0.out.trans0 hg14)
          have HGA14 := Lib.hid (HGA0.out.trans0 hg14)
          have HN14 := Lib.hid (hS14.at.sub (D' := New wA.heap.size) fun b o hb => by have := HGA0.out.size; unfold New at *; omega)
          clear hS14 hg14
          try dsimp only
          refine hK.out _ _ (HG14.out) (fun hHeld => ?_)
          clear hHeld hK K
          try simp only [Act.put, List.getElem_toArray, List.getElem_cons_succ, List.getElem_cons_zero, List.setIfInBounds_toArray, List.set_cons_zero, List.set_cons_succ]
          refine wpAnyH_take (i := 6) (v := ?_) rfl (by kernel_rfl) (by kernel_rfl) (by kernel_rfl) (fun _ _ _ h => h) (Or.inl ⟨by rfl, ?_⟩) (HG14.out) ?_
          rotate_left
          focus (intro wq hq; clear hq; go_simp; try with_reducible rfl)
          simp only [Act.put, List.getElem_toArray, List.getElem_cons_succ, List.getElem_cons_zero, List.setIfInBounds_toArray, List.set_cons_zero, List.set_cons_succ]
          refine wpAnyH_ready (rs := [5]) (by kernel_rfl) (by simp) ?_
          refine (AllReadyH.cons rfl (fun K hK => ?_) AllReadyH.nil)
          go_simp
          refine (HA.out (St.count e) (by have := HIN.out; omega) e ae ce _ (Nat.le_refl _) (HEE.out.gr0 HGA14.out)).mono ?_
          rintro e15 w15 ⟨a15, d15, rfl, hS15, hg15⟩
          have HZ15 := Lib.hid (HZ14.out.gr hg15 (by simp))
          have HG15 := Lib.hid (HG14.out.trans0 hg15)
          have HGA15 := Lib.hid (HGA14.out.trans0 hg15)
          have HN15 := Lib.hid (hS15.at.sub (D' := New wA.heap.size) fun b o hb => by have := HGA14.out.size; unfold New at *; omega)
          have HO15 := Lib.hid (HN14.out.gr0 hg15)
          clear hS15 hg15
          try dsimp only
          refine hK.out _ _ (HG15.out) (fun hHeld => ?_)
          clear hHeld hK K
          try simp only [Act.put, List.getElem_toArray, List.getElem_cons_succ, List.getElem_cons_zero, List.setIfInBounds_toArray, List.set_cons_zero, List.set_cons_succ]
          refine wpAnyH_ready (rs := [7]) (by kernel_rfl) (by simp) ?_
          refine (AllReadyH.cons rfl (fun K hK => ?_) AllReadyH.nil)
          obtain ⟨z0, z1, z2, z3, z4, z5, zf⟩ := HZ15.out
          have HZ16 := Lib.hid (HZ15.out.set4 (.slice a14 t.length d14))
          have HW16 := Lib.hid (own_set w15 wr.heap.size 4 (.slice a14 t.length d14))
          go_simp
          try dsimp only
          clear z0 z1 z2 z3 z4 z5 zf
          have HG16 := Lib.hid (HG15.out.trans HW16.out (fun r hr => .inr (by cases hr; exact Nat.le_refl _)))
          have HT16 := Lib.hid (HO15.out.far HW16.out (fun r hr => by cases hr; omega))
          have HE16 := Lib.hid (HN15.out.far HW16.out (fun r hr => by cases hr; omega))
          refine hK.out _ _ (HG16.out) (fun hHeld => ?_)
          clear hHeld hK K
          try simp only [Act.put, List.getElem_toArray, List.getElem_cons_succ, List.getElem_cons_zero, List.setIfInBounds_toArray, List.set_cons_zero, List.set_cons_succ]
          refine wpAnyH_take (i := 8) (v := ?_) rfl (by kernel_rfl) (by kernel_rfl) (by kernel_rfl) (fun _ _ _ h => h) (Or.inl ⟨by rfl, ?_⟩) (HG16.out) ?_
          rotate_left
          focus (intro wq hq; clear hq; go_simp; try with_reducible rfl)
          simp only [Act.put, List.getElem_toArray, List.getElem_cons_succ, List.getElem_cons_zero, List.setIfInBounds_toArray, List.set_cons_zero, List.set_cons_succ]
          refine wpAnyH_ready (rs := [9]) (by kernel_rfl) (by simp) ?_
          refine (AllReadyH.cons rfl (fun K hK => ?_) AllReadyH.nil)
          obtain ⟨z0, z1, z2, z3, z4, z5, zf⟩ := HZ16.out
          have HZ17 := Lib.hid (HZ16.out.set5 (.slice a15 e.length d15))
          have HW17 := Lib.hid (own_set (World.setCell w15 ⟨wr.heap.size, 4, none⟩ (.slice a14 t.length d14)) wr.heap.size 5 (.slice a15 e.length d15))
          go_simp
          try dsimp only
          clear z0 z1 z2 z3 z4 z5 zf
          have HG17 := Lib.hid (HG16.out.trans HW17.out (fun r hr => .inr (by cases hr; exact Nat.le_refl _)))
          have HT17 := Lib.hid (HT16.out.far HW17.out (fun r hr => by cases hr; omega))
          have HE17 := Lib.hid (HE16.out.far HW17.out (fun r hr => by cases hr; omega))
          refine hK.out _ _ (HG17.out) (fun hHeld => ?_)
          clear hHeld hK K
          try simp only [Act.put, List.getElem_toArray, List.getElem_cons_succ, List.getElem_cons_zero, List.setIfInBounds_toArray, List.set_cons_zero, List.set_cons_succ]
          refine wpAnyH_done (by kernel_rfl) ?_ _
          go_wp2_with fail
          go_meet
          exact ⟨_, _, _, _, _, rfl, rfl, rfl, HZ17.out, HT17.out, HE17.out, HG17.out⟩
      case rest =>
      obtain ⟨wx, a1, a2, d1, d2, rfl, rfl, rfl, hz, hs1, hs2, hgx⟩ := hcut
      have HROW := Lib.hid (show StRow wx (Inn w.heap.size ao) (.mk op x y kk t e) [.int .i64 op, .int .i64 x, .int .i64 y, .int .i64 kk, .slice a1 t.length d1, .slice a2 e.length d2] from ⟨htm, hem, a1, d1, a2, d2, rfl, hs1.sub fun b o hb => ⟨by unfold New at hb; omega, fun eo => by have := (HOWN.out b eo).2; unfold New at hb; omega⟩, hs2.sub fun b o hb => ⟨by unfold New at hb; omega, fun eo => by have := (HOWN.out b eo).2; unfold New at hb; omega⟩⟩)
      have HGX := Lib.hid hgx
      have HGAl := Lib.hid (show ∀ o, Gr wx (wx.alloc o) none from fun o => (Gr.refl _ _).alloc _)
      have hszW : w.heap.size ≤ wx.heap.size := (HGR.out.trans0 hgx).size
      have HLT := Lib.hid (show (l.take k).length = m by rw [List.length_take, HM.out]; omega)
      obtain ⟨z0, z1, z2, z3, z4, z5, zf⟩ := hz
      clear hs1 hs2 hgx
      go_wp2_with (at_builtin; refine app_sts _ rfl (.tmp 20) (.tmp 22) rfl w.heap.size ao cap (l.take k) m HLT.out rfl (HS.out.gr0 (HGX.out.trans0 (HGAl.out _))) (by omega) (by simp; omega) (.mk op x y kk t e) _ ⟨wx.heap.size, 0, none⟩ _ rfl (row_cells (heap1_0 _ _)) (HROW.out.gr0 (HGAl.out _)) ?_; rintro g cap' w9 hS9 hg9 ho9)
      go_roundw
      case rel => exact ⟨k + 1, _, cap', m + 1, by omega, by go_num, by have := HM.out; omega, rfl, by rw [HTK.out]; exact hS9, ((HGR.out.trans0 HGX.out).alloc _).trans hg9 (fun r e => .inr (HOWN.out r e).1)⟩
      case measure => simp [intOf]; omega
    · obtain rfl : k = l.length := by omega
      go_wp2_with fail
      go_ret
      exact ⟨ao, cap, by rw [HM.out]; rfl, by have := HS.out; rw [List.take_length] at this; exact this, hg⟩
theorem own_all : ∀ n, n ≤ 10000 → OwnC n := fun n => Nat.strongRecOn n (fun n ih hn => own_step n hn (fun m hm => ih m hm (by omega)))
end Go.Proofs.Ytdnhinkjmjpnnaa
