/- The law FnRunEven: the walk of the law's own function. -/
import Derived.Test.YtadidppbhpdnkaaG3

import Derived.Test.YtadidppbhpdnkaaB19

import Derived.Test.YtadidppbhpdnkaaW3

import Derived.Test.YtadidppbhpdnkaaZ3

namespace Go.Proofs.Ytadidppbhpdnkaa

open Go.RowKit

theorem rows1_lst {w : World} {b0 base : Nat} {l : List Int} {ao : Option Addr} {n cap : Nat} (h : LstR 3 1 w b0 base (l.map fun x => [Value.int .i64 x]) ao n cap) : Lst w b0 base l ao n cap := by
  have hf : (l.map fun x => [Value.int .i64 x]).flatten = ints l := by
    clear h; induction l with
    | nil => rfl
    | cons x r ih => simp [ints] at ih ⊢; exact ih
  refine ⟨by simpa using h.1, h.2.1, ?_⟩
  rcases h.2.2.2 with ⟨h1, h2⟩ | h4
  · exact .inl ⟨by simpa using h1, h2⟩
  · exact .inr (by rw [← hf]; exact h4)
def evens (cs : List Int) : List Int := cs.map fun c => c.tmod 2
theorem evens_take {cs : List Int} {k : Nat} (h : k < cs.length) : evens (cs.take (k + 1)) = evens (cs.take k) ++ [cs[k].tmod 2] := by
  unfold evens; rw [List.take_succ_eq_append_getElem h, List.map_append, List.map_cons, List.map_nil]

set_option maxRecDepth 100000 in
set_option maxHeartbeats 4000000 in
theorem fnRunEven_walk (a : Option Addr) (n c : Nat) (w : World) (h : BytesIn w a n) (hc : n ≤ c) (hm : n ≤ maxLen) :
    Calls Try.prog 6 #[.slice a n c] w fun e w' => e = .returned (.bool true) ∧ Gr w w' none := by
  unfold maxLen at hm
  by_cases hbig : 1048576 < n
  · go_enter Try.func6, Try.ntmps6
    go_wp2
    go_ret
    exact ⟨rfl, Gr.refl _ _⟩
  · go_enter Try.func6, Try.ntmps6
    go_wp2_with fail
    refine (runD_any a n c w h hc (by omega)).mono ?_
    rintro e w1 ⟨p, v0, v1, cs, ac, cc, tg, rfl, ⟨at', ab, ct, cb, rfl, rfl, hT, hB, ht, hcn⟩, hC, hcc, hc8, hk1, hk2, hg1⟩
    have hlb := count_length p.body
    have hQ := PrIn.new (ct := ct) (cb := cb) hT hB
    have hgA := hg1.alloc (.cells #[.slice at' p.types.length ct, .slice ab p.body.length cb] 26)
    have hCA : ∀ o, InAt (w1.alloc o) Any cs ac := fun o => (hC.mono (fun _ _ _ => trivial) (fun _ _ _ _ h => h)).gr0 ((Gr.refl _ _).alloc _)
    clear hC
    clear hT hB hg1 h
    go_wp2_with fail
    obtain ⟨wA, hwA⟩ : ∃ wA : World, wA = w1.alloc (.cells #[.slice at' p.types.length ct, .slice ab p.body.length cb] 26) := ⟨_, rfl⟩
    have HC := Lib.hid (show InAt wA Any cs ac from by rw [hwA]; exact hCA _)
    clear hCA
    rw [← hwA] at hQ hgA ⊢
    clear hwA
    have HQ := Lib.hid hQ
    have HG := Lib.hid hgA
    have q0 := hQ.1
    have q1 := hQ.2.1
    clear hQ hgA
    obtain ⟨R, hR⟩ : ∃ R, (runOf p cs tg).1 = R := ⟨_, rfl⟩
    obtain ⟨B, hB⟩ : ∃ B, (runOf p cs tg).2 = B := ⟨_, rfl⟩
    have HR := Lib.hid hR
    have HB := Lib.hid hB
    have hRl : (zs R).length ≤ 1048576 := by rw [zs_length, ← hR]; have := runOf_len p cs tg; omega
    clear hR hB
    refine (implRunPath_any p cs tg _ _ _ _ _ _ _ HQ.out.2.2.1 HQ.out.2.2.2 (by omega) (by omega) HC.out hcc (by omega)).mono ?_
    rw [HR.out, HB.out]
    rintro e w2 ⟨a2, c2, rfl, hI, -, -, hg, -⟩
    replace HQ := Lib.hid (HQ.out.gr hg)
    replace HG := Lib.hid (HG.out.trans0 hg)
    replace q0 := HQ.out.1
    replace q1 := HQ.out.2.1
    replace HC := Lib.hid (HC.out.gr0 hg)
    have HL := Lib.hid (hI)
    clear hI hg
    go_wp2_with fail
    refine (specRunPath_any p cs tg _ _ _ _ _ _ _ HQ.out.2.2.1 HQ.out.2.2.2 (by omega) (by omega) HC.out (by omega)).mono ?_
    rw [HR.out, HB.out]
    rintro e w3 ⟨a3, c3, rfl, hI, -, -, hg, -⟩
    replace HQ := Lib.hid (HQ.out.gr hg)
    replace HG := Lib.hid (HG.out.trans0 hg)
    replace q0 := HQ.out.1
    replace q1 := HQ.out.2.1
    replace HC := Lib.hid (HC.out.gr0 hg)
    replace HL := Lib.hid (HL.out.gr0 hg)
    have HS := Lib.hid (hI)
    clear hI hg
    go_wp2_with fail
    have hg0 : Gr w3 (w3.alloc (.cells #[] 3)) none := (Gr.refl _ _).alloc _
    have hE : (w3.alloc (.cells #[] 3)).heap[w3.heap.size]? = some (.cells #[] 3 (0, 0)) := heap1_0 _ _
    generalize w3.alloc (.cells #[] 3) = wB at *
    have hL0 : Lst wB w3.heap.size wB.heap.size [] (some ⟨w3.heap.size, 0, none⟩) 0 0 := Lst.empty hg0.size (Nat.le_refl _) hE
    have HGB := Lib.hid hg0
    replace q0 := hg0.cell q0 (by simp)
    replace q1 := hg0.cell q1 (by simp)
    clear hE hg0
    have HEV := Lib.hid (show runOf p (evens cs ++ [1]) tg = runOf p cs tg from runOf_evens p cs tg)
    have hel : (evens cs).length = cs.length := by simp [evens]
    go_loopw [10, 11] (fun v i wr => ∃ (k cap : Nat) (ao : Option Addr), k ≤ cs.length ∧ i = .int .i64 k ∧ v = .slice ao k cap ∧ Lst wr w3.heap.size wB.heap.size (evens (cs.take k)) ao k cap ∧ Gr wB wr none) (fun _ i _ => cs.length - (intOf i).toNat)
    case atStart => exact ⟨0, 0, _, Nat.zero_le _, rfl, rfl, hL0, Gr.refl _ _⟩
    case round =>
      obtain ⟨k, cap, ao, hk, rfl, rfl, hLst, hg⟩ := hrel
      have HLst := Lib.hid hLst
      clear hLst hL0
      by_cases hlt : k < cs.length
      · obtain ⟨b1, o1, rfl, -, e1⟩ := (HC.out.gr0 (HGB.out.trans0 hg)).at hlt
        have HET := Lib.hid (evens_take hlt)
        obtain ⟨x, hx⟩ : ∃ x, cs[k] = x := ⟨_, rfl⟩
        rw [hx] at e1
        have HET2 := Lib.hid (show evens (cs.take (k + 1)) = evens (cs.take k) ++ [x.tmod 2] from by rw [HET.out, hx])
        clear hx HET
        go_wp2_with (at_builtin; refine app_l wr _ rfl (.tmp 44) (.tmp 50) rfl w3.heap.size wB.heap.size ao cap k _ (x.tmod 2) rfl HLst.out ((Gr.refl _ _).alloc _) wr.heap.size 1 rfl (cell_of_row _ _ _ _ _ _ (heap1_0 _ _)) (by omega) hg.size ?_; rintro g cap2 w4 hL4 hg4)
        go_roundw
        case rel => exact ⟨k + 1, cap2, some ⟨g, 0, none⟩, by omega, by go_num, rfl, by rw [HET2.out]; exact hL4, hg4 _ (hg.alloc _) (Nat.le_refl _)⟩
        case measure => simp [intOf]; omega
      · obtain rfl : k = cs.length := by omega
        rw [List.take_length] at HLst
        have HLEN := Lib.hid (show cs.length + 1 = (evens cs ++ [1]).length from by simp [hel])
        have hsz := hg.size
        clear hel
        go_upto_region 11 with fail
        refine wp_region_held_drew (S := fun w' => Gr wB w' none) (by kernel_rfl) (hg.drew) (fun hHeld => ?_)
        refine wpAnyH_take (i := 0) (v := ?_) rfl (by kernel_rfl) (by kernel_rfl) (by kernel_rfl) (fun _ _ _ h => h) (Or.inl ⟨by rfl, ?_⟩) hHeld ?_
        rotate_left
        focus (intro wq hq; have r0 := hq.cell q0 (by simp); have r1 := hq.cell q1 (by simp); go_simp; try with_reducible rfl)
        simp only [Act.put, List.getElem_toArray, List.getElem_cons_zero, List.setIfInBounds_toArray, List.set_cons_zero, List.set_cons_succ]
        refine wpAnyH_take (i := 1) (v := ?_) rfl (by kernel_rfl) (by kernel_rfl) (by kernel_rfl) (fun _ _ _ h => h) (Or.inl ⟨by rfl, ?_⟩) hHeld ?_
        rotate_left
        focus (intro wq hq; clear hq; go_simp; try with_reducible rfl)
        simp only [Act.put, List.getElem_toArray, List.getElem_cons_succ, List.getElem_cons_zero, List.setIfInBounds_toArray, List.set_cons_zero, List.set_cons_succ]
        refine wpAnyH_take (i := 4) (v := ?_) rfl (by kernel_rfl) (by kernel_rfl) (by kernel_rfl) (fun _ _ _ h => h) (Or.inl ⟨by rfl, ?_⟩) hHeld ?_
        rotate_left
        focus (intro wq hq; clear hq; go_simp; try with_reducible rfl)
        simp only [Act.put, List.getElem_toArray, List.getElem_cons_succ, List.getElem_cons_zero, List.setIfInBounds_toArray, List.set_cons_zero, List.set_cons_succ]
        refine wpAnyH_ready (rs := [2]) (by kernel_rfl) (by simp) ?_
        refine AllReadyH.cons rfl (fun K hK => ?_) AllReadyH.nil
        go_simp
        try dsimp only
        refine hK.out _ _ (Gr.alloc hHeld _) (fun hHeld => ?_)
        clear hK K
        try simp only [Act.put, List.getElem_toArray, List.getElem_cons_succ, List.getElem_cons_zero, List.setIfInBounds_toArray, List.set_cons_zero, List.set_cons_succ]
        refine wpAnyH_ready (rs := [3]) (by kernel_rfl) (by simp) ?_
        refine AllReadyH.cons rfl (fun K hK => ?_) AllReadyH.nil
        refine step_app_r wr _ rfl (.tmp 54) (.tmp 55) 23 rfl 3 1 8 _ Try.underlying23 Qinfo rfl (by decide) (by decide) w3.heap.size wB.heap.size ao cap cs.length ((evens cs).map fun x => [Value.int .i64 x]) [.int .i64 1] rfl (lst_rows1 HLst.out) ((Gr.refl wr none).drew.alloc _) wr.heap.size 1 rfl _ (heap1_0 _ _) rfl rfl (by intro u hu; simp at hu; subst hu; rfl) (by omega) hsz ?_
        rintro g6 cap6 w6 hL6 hgg -
        have hL7 : Lst w6 w3.heap.size wB.heap.size (evens cs ++ [1]) (some ⟨g6, 0, none⟩) (cs.length + 1) cap6 := rows1_lst (by simpa using hL6)
        have HC6 := Lib.hid hL7.ints
        have hc6 := hL7.le_cap
        clear hL6 hL7
        try dsimp only
        refine hK.out _ _ (hgg _ hHeld (Nat.le_refl _)) (fun hHeld => ?_)
        clear hK K
        try simp only [Act.put, List.getElem_toArray, List.getElem_cons_succ, List.getElem_cons_zero, List.setIfInBounds_toArray, List.set_cons_zero, List.set_cons_succ]
        refine wpAnyH_ready (rs := [5]) (by kernel_rfl) (by simp) ?_
        refine AllReadyH.cons rfl (fun K hK => ?_) AllReadyH.nil
        go_simp
        rw [HLEN.out]
        refine (implRunPath_any p (evens cs ++ [1]) tg _ _ _ _ _ _ _ (HQ.out.2.2.1.gr0 (HGB.out.trans0 hHeld)) (HQ.out.2.2.2.gr0 (HGB.out.trans0 hHeld)) (by omega) (by omega) HC6.out (by rw [← HLEN.out]; exact hc6) (by rw [← HLEN.out]; omega)).mono ?_
        rw [HEV.out, HR.out, HB.out]
        rintro e w8 ⟨a8, c8, rfl, hI8, -, -, hg8, -⟩
        try dsimp only
        refine hK.out _ _ (Gr.trans0 hHeld hg8) (fun hHeld => ?_)
        clear hK K
        try simp only [Act.put, List.getElem_toArray, List.getElem_cons_succ, List.getElem_cons_zero, List.setIfInBounds_toArray, List.set_cons_zero, List.set_cons_succ]
        refine wpAnyH_take (i := 6) (v := ?_) rfl (by kernel_rfl) (by kernel_rfl) (by kernel_rfl) (fun _ _ _ h => h) (Or.inl ⟨by rfl, ?_⟩) hHeld ?_
        rotate_left
        focus (intro wq hq; clear hq; go_simp; try with_reducible rfl)
        simp only [Act.put, List.getElem_toArray, List.getElem_cons_succ, List.getElem_cons_zero, List.setIfInBounds_toArray, List.set_cons_zero, List.set_cons_succ]
        refine wpAnyH_take (i := 7) (v := ?_) rfl (by kernel_rfl) (by kernel_rfl) (by kernel_rfl) (fun _ _ _ h => h) (Or.inl ⟨by rfl, ?_⟩) hHeld ?_
        rotate_left
        focus (intro wq hq; clear hq; go_simp; try with_reducible rfl)
        simp only [Act.put, List.getElem_toArray, List.getElem_cons_succ, List.getElem_cons_zero, List.setIfInBounds_toArray, List.set_cons_zero, List.set_cons_succ]
        refine wpAnyH_take (i := 8) (v := ?_) rfl (by kernel_rfl) (by kernel_rfl) (by kernel_rfl) (fun _ _ _ h => h) (Or.inl ⟨by rfl, ?_⟩) hHeld ?_
        rotate_left
        focus (intro wq hq; clear hq; go_simp; try with_reducible rfl)
        simp only [Act.put, List.getElem_toArray, List.getElem_cons_succ, List.getElem_cons_zero, List.setIfInBounds_toArray, List.set_cons_zero, List.set_cons_succ]
        refine wpAnyH_take (i := 9) (v := ?_) rfl (by kernel_rfl) (by kernel_rfl) (by kernel_rfl) (fun _ _ _ h => h) (Or.inl ⟨by rfl, ?_⟩) hHeld ?_
        rotate_left
        focus (intro wq hq; clear hq; go_simp; try with_reducible rfl)
        simp only [Act.put, List.getElem_toArray, List.getElem_cons_succ, List.getElem_cons_zero, List.setIfInBounds_toArray, List.set_cons_zero, List.set_cons_succ]
        refine wpAnyH_take (i := 10) (v := ?_) rfl (by kernel_rfl) (by kernel_rfl) (by kernel_rfl) (fun _ _ _ h => h) (Or.inl ⟨by rfl, ?_⟩) hHeld ?_
        rotate_left
        focus (intro wq hq; clear hq; go_simp; try with_reducible rfl)
        simp only [Act.put, List.getElem_toArray, List.getElem_cons_succ, List.getElem_cons_zero, List.setIfInBounds_toArray, List.set_cons_zero, List.set_cons_succ]
        refine wpAnyH_done (by kernel_rfl) ?_ _
        have HI8 := Lib.hid hI8
        have HG8 := Lib.hid (Gr.trans0 HG.out (HGB.out.trans0 hHeld))
        have HL8 := Lib.hid (HL.out.gr0 (HGB.out.trans0 hHeld))
        have HS8 := Lib.hid (HS.out.gr0 (HGB.out.trans0 hHeld))
        clear hI8 hHeld
        go_wp2_with fail
        refine (bcInts_same (zs R) _ _ _ _ _ HL8.out HS8.out hRl).mono ?_
        rintro e w9 ⟨rfl, hg9⟩
        go_wp2_with fail
        refine (bcInts_same (zs R) _ _ _ _ _ (HI8.out.gr0 hg9) (HL8.out.gr0 hg9) hRl).mono ?_
        rintro e w10 ⟨rfl, hg10⟩
        go_wp2_with fail
        go_ret
        exact ⟨by simp, (HG8.out.trans0 hg9).trans0 hg10⟩
end Go.Proofs.Ytadidppbhpdnkaa
