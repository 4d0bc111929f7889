/- Walks of the texts of programs, weakly: a text that is not too long comes back. -/
/- Walks of the texts of lists and programs, and of the parser of programs, weakly. -/
/- Walks of the text of a program and of the parser of programs, weakly. -/
import Derived.Test.YtadidppbhpdnkaaB5

import Derived.Deep.RegionHeld3

namespace Go.Proofs.Ytadidppbhpdnkaa

open Go.RowKit

/-- A text of at most m bytes. -/
def Texted (m : Nat) (w : World) (e : Ending) (w' : World) : Prop := ∃ s : ByteArray, e = .returned (.string s) ∧ s.size ≤ m ∧ Gr w w' none
theorem conv1 (u : World) (x : Int) : ∀ dst, Try.prog.underlying dst = some .string → (convert 22 dst (.slice (some ⟨u.heap.size, 0, none⟩) 1 1)).run Try.prog (u.alloc (.cells #[.int .u8 x] 5)) = .ok (.string (strOfNums [x])) (u.alloc (.cells #[.int .u8 x] 5)) :=
  run_convert_bytes_arg _ _ _ Try.underlying22 Try.underlying5 u.heap.size 0 1 1 [x] rfl (fun i hi => by
    rw [cell_of_row _ _ _ _ _ _ (heap1_0 _ _)]
    obtain rfl : i = 0 := by omega
    rfl)
theorem str1 (x : Int) : (strOfNums [x]).size = 1 := rfl
set_option maxRecDepth 100000 in
theorem l1Letter_any (v : Int) (w : World) : Calls Try.prog 112 #[.int .i64 v] w (Texted 1 w) := by
  have kc := fun (u : World) (x : Int) => conv1 u x 9 Try.underlying9
  go_enter Try.func112, Try.ntmps112
  go_wp2
  go_ret
  exact ⟨_, rfl, Nat.le_of_eq (str1 _), (Gr.refl _ _).alloc _⟩
set_option maxRecDepth 100000 in
theorem l17Dec_any (v : Int) (h0 : 0 ≤ v) (h9 : v ≤ 9) (w : World) : Calls Try.prog 113 #[.int .i64 v] w (Texted 1 w) := by
  have kc := fun (u : World) (x : Int) => conv1 u x 9 Try.underlying9
  go_enter Try.func113, Try.ntmps113
  go_wp2_with fail
  go_loop [0, 3] (fun x o => x = .int .i64 v ∧ o = .string { data := #[] }) (fun _ _ => 0)
  case atStart => exact ⟨rfl, rfl⟩
  case round =>
    obtain ⟨rfl, rfl⟩ := hrel
    have kc' := fun (u : World) (x : Int) => conv1 u x 9 Try.underlying9
    have hs1 := str1 (48 + v)
    obtain ⟨s, hs⟩ : ∃ s, strOfNums [48 + v] = s := ⟨_, rfl⟩
    rw [hs] at hs1
    go_wp2
    go_ret
    exact ⟨s ++ { data := #[] }, rfl, by rw [ByteArray.size_append, hs1]; decide, (Gr.refl _ _).alloc _⟩

theorem size_mk (a : Array UInt8) : (ByteArray.mk a).size = a.size := rfl
def TC (n : Nat) : Prop := ∀ (types : List Int) (d : Int) (l : List St) (a : Option Addr) (c : Nat) (w : World), St.count l ≤ n → bodyS types l d = true → SlAt w Any l a →
  Calls Try.prog 100 #[.slice a l.length c] w (Texted (33 * St.count l) w)
theorem stS_num {types : List Int} {op x y n : Int} {t e : List St} {d : Int} (h : stS types (.mk op x y n t e) d = true) (ho : op = 1 ∨ op = 2) : 0 ≤ n ∧ n ≤ 9 := by
  simp only [stS] at h
  rcases ho with rfl | rfl
  · simp [simpleS] at h; omega
  · simp [simpleS] at h; omega
theorem stS_op {types : List Int} {op x y n : Int} {t e : List St} {d : Int} (h : stS types (.mk op x y n t e) d = true) : (1 ≤ op ∧ op ≤ 8) ∨ ((op = 9 ∨ op = 10) ∧ bodyS types t (d - 1) = true ∧ bodyS types e (d - 1) = true) := by
  simp only [stS] at h
  split at h
  · rename_i h9
    refine .inl ?_
    simp only [Bool.and_eq_true] at h
    have h2 := h.2.2
    unfold simpleS at h2
    by_cases o1 : op = 1
    · omega
    · by_cases o2 : op = 2
      · omega
      · by_cases o3 : op = 3
        · omega
        · by_cases o4 : op = 4
          · omega
          · by_cases o5 : op = 5
            · omega
            · by_cases o6 : op = 6
              · omega
              · by_cases o7 : op = 7
                · omega
                · by_cases o8 : op = 8
                  · omega
                  · simp [o1, o2, o3, o4, o5, o6, o7, o8] at h2
  · rename_i h9
    refine .inr ?_
    split at h
    · simp at h
    · simp only [Bool.and_eq_true] at h
      exact ⟨by simp at h9; omega, h.1, h.2⟩
set_option maxRecDepth 100000 in
set_option maxHeartbeats 8000000 in
theorem text_step (n : Nat) (hn : n ≤ 10000) (hL : TC n) (types : List Int) (d : Int) (op x y k : Int) (t e : List St) (hv : stS types (.mk op x y k t e) d = true) (at' ae : Option Addr) (ct ce : Nat) (w : World) (ht : SlAt w Any t at') (he : SlAt w Any e ae) (hin : St.count t + St.count e ≤ n) :
    Calls Try.prog 109 #[.agg #[.int .i64 op, .int .i64 x, .int .i64 y, .int .i64 k, .slice at' t.length ct, .slice ae e.length ce]] w (Texted (32 + 33 * (St.count t + St.count e)) w) := by
  have HL := Lib.hid hL
  have hnum := fun ho => stS_num hv ho
  have hop := stS_op hv
  have HNUM := Lib.hid hnum
  clear hL hnum hv
  have hgA : ∀ o, Gr w (w.alloc o) none := fun o => (Gr.refl _ _).alloc _
  have B : ∀ o : Obj, ∀ (w1 : World), Gr (w.alloc (.cells #[.int .i64 op, .int .i64 x, .int .i64 y, .int .i64 k, .slice at' t.length ct, .slice ae e.length ce] 96)) w1 none → w1.heap[w.heap.size]? = some (.cells #[.int .i64 op, .int .i64 x, .int .i64 y, .int .i64 k, .slice at' t.length ct, .slice ae e.length ce] 96 (0, 0)) := fun _ w1 hg => (hg.block _ (by simp) (by simp)).trans (heap1_0 _ _)
  have HB := Lib.hid B
  clear B
  rcases hop with ⟨h1, h8⟩ | ⟨h9, hbt, hbe⟩
  · have hlt : op < 9 := by omega
    go_enter Try.func109, Try.ntmps109
    go_wp2_with fail
    refine (l1Letter_any _ _).mono ?_
    rintro e1 w1 ⟨s1, rfl, hs1, hg1⟩
    have hb := HB.out (.cells #[] 0) w1 hg1
    have c2 := cell_of_row _ _ 2 _ _ _ hb
    simp at c2
    clear hb
    go_wp2_with fail
    refine (l1Letter_any _ _).mono ?_
    rintro e1 w2 ⟨s2, rfl, hs2, hg2⟩
    have hG2 := hg1.trans0 hg2
    have hb := HB.out (.cells #[] 0) w2 hG2
    have c0 := cell_of_row _ _ 0 _ _ _ hb
    have c3 := cell_of_row _ _ 3 _ _ _ hb
    simp at c0 c3
    have HG2 := Lib.hid ((hgA _).trans0 hG2)
    clear hb hg1 hg2 c2 hG2
    by_cases o1 : op = 1
    · have hk := HNUM.out (.inl o1)
      subst o1
      go_wp2_with fail
      refine (l17Dec_any k hk.1 hk.2 _).mono ?_
      rintro e1 w3 ⟨s3, rfl, hs3, hg3⟩
      go_wp2_with fail
      go_ret
      exact ⟨_, rfl, by show ByteArray.size (_ ++ _) ≤ _; simp [ByteArray.size_append, size_mk]; omega, HG2.out.trans0 hg3⟩
    · by_cases o2 : op = 2
      · have hk := HNUM.out (.inr o2)
        subst o2
        go_wp2_with fail
        refine (l17Dec_any k hk.1 hk.2 _).mono ?_
        rintro e1 w3 ⟨s3, rfl, hs3, hg3⟩
        go_wp2_with fail
        go_ret
        exact ⟨_, rfl, by show ByteArray.size (_ ++ _) ≤ _; simp [ByteArray.size_append, size_mk]; omega, HG2.out.trans0 hg3⟩
      · have h38 : op = 3 ∨ op = 4 ∨ op = 5 ∨ op = 6 ∨ op = 7 ∨ op = 8 := by omega
        clear o1 o2 h1 h8 hlt
        rcases h38 with rfl | rfl | rfl | rfl | rfl | rfl
        all_goals
          go_wp2_with fail
          go_ret
          exact ⟨_, rfl, by show ByteArray.size (_ ++ _) ≤ _; simp [ByteArray.size_append, size_mk]; omega, HG2.out⟩
  · have hge : ¬ op < 9 := by omega
    rcases h9 with rfl | rfl
    · clear hge
      go_enter Try.func109, Try.ntmps109
      go_upto_region 25 with fail
      have e4 : (w.alloc (.cells #[.int .i64 9, .int .i64 x, .int .i64 y, .int .i64 k, .slice at' t.length ct, .slice ae e.length ce] 96)).cell? ⟨w.heap.size, 4, none⟩ = some (.slice at' t.length ct) := cell_of_row _ _ 4 _ _ _ (heap1_0 _ _)
      have e5 : (w.alloc (.cells #[.int .i64 9, .int .i64 x, .int .i64 y, .int .i64 k, .slice at' t.length ct, .slice ae e.length ce] 96)).cell? ⟨w.heap.size, 5, none⟩ = some (.slice ae e.length ce) := cell_of_row _ _ 5 _ _ _ (heap1_0 _ _)
      have hgW := hgA (.cells #[.int .i64 9, .int .i64 x, .int .i64 y, .int .i64 k, .slice at' t.length ct, .slice ae e.length ce] 96)
      obtain ⟨wA, hwA⟩ : ∃ wA : World, wA = w.alloc (.cells #[.int .i64 9, .int .i64 x, .int .i64 y, .int .i64 k, .slice at' t.length ct, .slice ae e.length ce] 96) := ⟨_, rfl⟩
      rw [← hwA] at e4 e5 hgW ⊢
      clear hwA HB HNUM
      refine wp_region_held_drew (S := fun w' => Gr wA w' none) (by kernel_rfl) (Gr.refl _ _).drew (fun hHeld => ?_)
      refine wpAnyH_take (i := 0) (v := ?_) rfl (by kernel_rfl) (by kernel_rfl) (by kernel_rfl) (fun _ _ _ h => h) (Or.inl ⟨by rfl, ?_⟩) hHeld ?_
      rotate_left
      focus (intro wq hq; clear hq; go_simp; try with_reducible rfl)
      simp only [Act.put, List.getElem_toArray, List.getElem_cons_zero, List.setIfInBounds_toArray, List.set_cons_zero, List.set_cons_succ]
      refine wpAnyH_take (i := 1) (v := ?_) rfl (by kernel_rfl) (by kernel_rfl) (by kernel_rfl) (fun _ _ _ h => h) (Or.inl ⟨by rfl, ?_⟩) hHeld ?_
      rotate_left
      focus (intro wq hq; have k0 := Gr.cell hq e4 (by simp); go_simp; try with_reducible rfl)
      simp only [Act.put, List.getElem_toArray, List.getElem_cons_succ, List.getElem_cons_zero, List.setIfInBounds_toArray, List.set_cons_zero, List.set_cons_succ]
      refine wpAnyH_take (i := 5) (v := ?_) rfl (by kernel_rfl) (by kernel_rfl) (by kernel_rfl) (fun _ _ _ h => h) (Or.inl ⟨by rfl, ?_⟩) hHeld ?_
      rotate_left
      focus (intro wq hq; clear hq; go_simp; try with_reducible rfl)
      simp only [Act.put, List.getElem_toArray, List.getElem_cons_succ, List.getElem_cons_zero, List.setIfInBounds_toArray, List.set_cons_zero, List.set_cons_succ]
      refine wpAnyH_take (i := 6) (v := ?_) rfl (by kernel_rfl) (by kernel_rfl) (by kernel_rfl) (fun _ _ _ h => h) (Or.inl ⟨by rfl, ?_⟩) hHeld ?_
      rotate_left
      focus (intro wq hq; have k0 := Gr.cell hq e5 (by simp); go_simp; try with_reducible rfl)
      simp only [Act.put, List.getElem_toArray, List.getElem_cons_succ, List.getElem_cons_zero, List.setIfInBounds_toArray, List.set_cons_zero, List.set_cons_succ]
      refine wpAnyH_ready (rs := [2]) (by kernel_rfl) (by simp) ?_
      refine AllReadyH.cons rfl (fun K hK => ?_) AllReadyH.nil
      go_simp
      refine (HL.out types (d - 1) t at' ct _ (by omega) hbt ((ht.gr0 hgW).gr0 hHeld)).mono ?_
      rintro e1 w1 ⟨s1, rfl, hs1, hg1⟩
      have hb1 : s1.size ≤ 340000 := by omega
      try dsimp only
      refine hK.out _ _ (Gr.trans0 (show Gr wA _ none from hHeld) hg1) (fun hHeld => ?_)
      clear hK K
      try simp only [Act.put, List.getElem_toArray, List.getElem_cons_succ, List.getElem_cons_zero, List.setIfInBounds_toArray, List.set_cons_zero, List.set_cons_succ]
      refine wpAnyH_take (i := 3) (v := ?_) rfl (by kernel_rfl) (by kernel_rfl) (by kernel_rfl) (fun _ _ _ h => h) (Or.inl ⟨by rfl, ?_⟩) hHeld ?_
      rotate_left
      focus (intro wq hq; clear hq; go_simp; (rw [if_neg (by first | omega | (simp [ByteArray.size_append, size_mk]; omega))]; try with_reducible rfl))
      simp only [Act.put, List.getElem_toArray, List.getElem_cons_succ, List.getElem_cons_zero, List.setIfInBounds_toArray, List.set_cons_zero, List.set_cons_succ]
      refine wpAnyH_take (i := 4) (v := ?_) rfl (by kernel_rfl) (by kernel_rfl) (by kernel_rfl) (fun _ _ _ h => h) (Or.inl ⟨by rfl, ?_⟩) hHeld ?_
      rotate_left
      focus (intro wq hq; clear hq; go_simp; (rw [if_neg (by first | omega | (simp [ByteArray.size_append, size_mk]; omega))]; try with_reducible rfl))
      simp only [Act.put, List.getElem_toArray, List.getElem_cons_succ, List.getElem_cons_zero, List.setIfInBounds_toArray, List.set_cons_zero, List.set_cons_succ]
      refine wpAnyH_ready (rs := [7]) (by kernel_rfl) (by simp) ?_
      refine AllReadyH.cons rfl (fun K hK => ?_) AllReadyH.nil
      go_simp
      refine (HL.out types (d - 1) e ae ce _ (by omega) hbe ((he.gr0 hgW).gr0 hHeld)).mono ?_
      rintro e2 w2 ⟨s2, rfl, hs2, hg2⟩
      have hb2 : s2.size ≤ 340000 := by omega
      try dsimp only
      refine hK.out _ _ (Gr.trans0 (show Gr wA _ none from hHeld) hg2) (fun hHeld => ?_)
      clear hK K
      try simp only [Act.put, List.getElem_toArray, List.getElem_cons_succ, List.getElem_cons_zero, List.setIfInBounds_toArray, List.set_cons_zero, List.set_cons_succ]
      refine wpAnyH_take (i := 8) (v := ?_) rfl (by kernel_rfl) (by kernel_rfl) (by kernel_rfl) (fun _ _ _ h => h) (Or.inl ⟨by rfl, ?_⟩) hHeld ?_
      rotate_left
      focus (intro wq hq; clear hq; go_simp; (rw [if_neg (by first | omega | (simp [ByteArray.size_append, size_mk]; omega))]; try with_reducible rfl))
      simp only [Act.put, List.getElem_toArray, List.getElem_cons_succ, List.getElem_cons_zero, List.setIfInBounds_toArray, List.set_cons_zero, List.set_cons_succ]
      refine wpAnyH_take (i := 9) (v := ?_) rfl (by kernel_rfl) (by kernel_rfl) (by kernel_rfl) (fun _ _ _ h => h) (Or.inl ⟨by rfl, ?_⟩) hHeld ?_
      rotate_left
      focus (intro wq hq; clear hq; go_simp; (rw [if_neg (by first | omega | (simp [ByteArray.size_append, size_mk]; omega))]; try with_reducible rfl))
      simp only [Act.put, List.getElem_toArray, List.getElem_cons_succ, List.getElem_cons_zero, List.setIfInBounds_toArray, List.set_cons_zero, List.set_cons_succ]
      refine wpAnyH_take (i := 10) (v := ?_) rfl (by kernel_rfl) (by kernel_rfl) (by kernel_rfl) (fun _ _ _ h => h) (Or.inl ⟨by rfl, ?_⟩) hHeld ?_
      rotate_left
      focus (intro wq hq; clear hq; go_simp; try with_reducible rfl)
      simp only [Act.put, List.getElem_toArray, List.getElem_cons_succ, List.getElem_cons_zero, List.setIfInBounds_toArray, List.set_cons_zero, List.set_cons_succ]
      refine wpAnyH_done (by kernel_rfl) ?_ _
      go_wp2_with fail
      go_ret
      exact ⟨_, rfl, by show ByteArray.size (_ ++ _) ≤ _; simp [ByteArray.size_append, size_mk]; omega, hgW.trans0 hHeld⟩
    · have hb := heap1_0 w (.cells #[.int .i64 10, .int .i64 x, .int .i64 y, .int .i64 k, .slice at' t.length ct, .slice ae e.length ce] 96)
      clear hge HB HNUM hb
      go_enter Try.func109, Try.ntmps109
      go_wp2_with fail
      refine (HL.out types (d - 1) t at' ct _ (by omega) hbt (ht.gr0 (hgA _))).mono ?_
      rintro e1 w1 ⟨s1, rfl, hs1, hg1⟩
      have hs1' : s1.size ≤ 340000 := by omega
      go_wp2_with fail
      go_ret
      exact ⟨_, rfl, by show ByteArray.size (_ ++ _) ≤ _; simp [ByteArray.size_append, size_mk]; omega, (hgA _).trans0 hg1⟩
end Go.Proofs.Ytadidppbhpdnkaa

namespace Go.Proofs.Ytadidppbhpdnkaa

open Go.RowKit

set_option maxRecDepth 100000 in
set_option maxHeartbeats 4000000 in
theorem texts_step (n : Nat) (hn : n ≤ 10000) (hA : ∀ m, m < n → TC m) : TC n := by
  intro types d l a c w hcn hv hl
  have HA := Lib.hid hA
  have hlc := length_count l
  have HV := Lib.hid hv
  clear hA hv
  go_enter Try.func100, Try.ntmps100
  go_wp2
  go_loopw [3, 4] (fun o i wr => ∃ (k : Nat) (s : ByteArray), k ≤ l.length ∧ o = .string s ∧ i = .int .i64 k ∧ s.size ≤ 33 * St.count (l.take k) ∧ Gr w wr none) (fun _ i _ => l.length - (intOf i).toNat)
  case atStart => exact ⟨0, { data := #[] }, Nat.zero_le _, rfl, rfl, by simp [size_mk], Gr.refl _ _⟩
  case round =>
    obtain ⟨k, s, hk, rfl, rfl, hs, hg⟩ := hrel
    by_cases hlt : k < l.length
    · obtain ⟨b, off, rfl, hst⟩ := (hl.gr0 hg).at hlt
      have hct := count_take_succ hlt
      have htl := count_take_le l (k + 1)
      have hvs : stS types l[k] d = true := by
        have := HV.out
        rw [bodyS_all, List.all_eq_true] at this
        exact this _ (List.getElem_mem hlt)
      obtain ⟨q, hq⟩ : ∃ q, l[k] = q := ⟨_, rfl⟩
      rw [hq] at hst hvs hct
      obtain ⟨m0, hm0⟩ : ∃ m0, St.count (l.take k) = m0 := ⟨_, rfl⟩
      obtain ⟨m1, hm1⟩ : ∃ m1, St.count (l.take (k + 1)) = m1 := ⟨_, rfl⟩
      rw [hm0] at hs hct
      rw [hm1] at hct htl
      have HM1 := Lib.hid hm1
      clear hq hm0 hm1
      obtain ⟨op, x, y, kk, t, e⟩ := q
      obtain ⟨_, htm, hem, at', ct, ae, ce, c0, c1, c2, c3, c4, c5, r4, r5⟩ := hst.out
      simp only [St.op, St.x, St.y, St.n, St.thn, St.els] at c0 c1 c2 c3 c4 c5 r4 r5 htm hem
      have hin : (St.mk op x y kk t e).inner = St.count t + St.count e := rfl
      have HIN := Lib.hid hin
      have HCT := Lib.hid hct
      have hsz : s.size ≤ 330000 := by omega
      have hmm : St.count t + St.count e < n := by rw [← hin]; omega
      clear hst hin hct
      by_cases h0 : k = 0
      · subst h0
        rw [show off + 0 * 6 = off from by omega] at c0 c1 c2 c3 c4 c5
        go_wp2_with fail
        refine (text_step (St.count t + St.count e) (by omega) (HA.out _ hmm) types d op x y kk t e hvs at' ae ct ce _ r4 r5 (Nat.le_refl _)).mono ?_
        rintro e1 w1 ⟨s1, rfl, hs1, hg1⟩
        have hs1' : s1.size ≤ 330032 := by omega
        go_wp2_with fail
        go_roundw
        case rel => exact ⟨1, _, by omega, rfl, by go_num, by simp only [ByteArray.size_append]; rw [HM1.out]; have := HCT.out; have := HIN.out; omega, hg.trans0 hg1⟩
        case measure => simp [intOf]; omega
      · have h1 : 0 < k := by omega
        go_wp2_with fail
        refine (text_step (St.count t + St.count e) (by omega) (HA.out _ hmm) types d op x y kk t e hvs at' ae ct ce _ r4 r5 (Nat.le_refl _)).mono ?_
        rintro e1 w1 ⟨s1, rfl, hs1, hg1⟩
        have hs1' : s1.size ≤ 330032 := by omega
        go_wp2_with fail
        go_roundw
        case rel => exact ⟨k + 1, _, by omega, rfl, by go_num, by simp only [ByteArray.size_append, size_mk]; rw [HM1.out]; have := HCT.out; have := HIN.out; simp; omega, hg.trans0 hg1⟩
        case measure => simp [intOf]; omega
    · obtain rfl : k = l.length := by omega
      go_wp2
      go_ret
      exact ⟨s, rfl, by rw [List.take_length] at hs; exact hs, hg⟩
theorem texts_all : ∀ n, n ≤ 10000 → TC n := fun n => Nat.strongRecOn n (fun n ih hn => texts_step n hn (fun m hm => ih m hm (by omega)))
end Go.Proofs.Ytadidppbhpdnkaa

namespace Go.Proofs.Ytadidppbhpdnkaa

open Go.RowKit

theorem app_l2 (w0 w : World) {ops : Array Oper} {rest : List Oper} {o : Oper} {a : Act} {Q : Exit → Act → World → Prop} (hgd : o.guard = none) (s x : Operand)
    (ho : o.op = .call { callee := .builtin .append, args := #[s, x], argTypes := #[23, 23] })
    (b0 base : Nat) (ao : Option Addr) (cap n : Nat) (l : List Int) (i : Int) (hs : a.eval s = .slice ao n cap) (hown : Lst w0 b0 base l ao n cap) (h0 : Gr w0 w none)
    (bx cx : Nat) (hx : a.eval x = .slice (some ⟨bx, 0, none⟩) 1 cx) (hc : w.cell? ⟨bx, 0, none⟩ = some (.int .i64 i)) (hlen : n ≤ 1000000) (hbase : base ≤ w0.heap.size)
    (h : ∀ (g cap' : Nat) (w' : World), Lst w' b0 base (l ++ [i]) (some ⟨g, 0, none⟩) (n + 1) cap' → Gr w w' (ob ao) →
      wpList Try.prog ops Q rest (a.put o.dst (.slice (some ⟨g, 0, none⟩) (n + 1) cap')) w') : wpList Try.prog ops Q (o :: rest) a w := by
  obtain ⟨i0, hi, hz0, hz1, hz2⟩ := info_parts Qinfo
  have hnews : ∀ k u, [Value.int .i64 i][k]? = some u → w.cell? ((⟨bx, 0, none⟩ : Addr).add k) = some u := by
    intro k u hu
    have hj : k = 0 := by have := (List.getElem?_eq_some_iff.1 hu).1; simpa using this
    subst hj
    simp at hu
    subst hu
    have hadd : (⟨bx, 0, none⟩ : Addr).add 0 = ⟨bx, 0, none⟩ := by unfold Addr.add; split <;> simp_all
    rw [hadd, hc]
  have hbw : base ≤ w.heap.size := by have := h0.size; omega
  have h1c : ∀ u ∈ [Value.int .i64 i], u.oneCell' = true := by intro u hu; simp at hu; subst hu; rfl
  obtain ⟨hn, hb, hcase⟩ := hown
  rcases hcase with ⟨e1, e2, e3⟩ | hrow
  · have hn0 : n = 0 := by rw [e1] at hn; simpa using hn.symm
    subst hn0 e2
    refine wpList_append_grows w hgd s x 23 ho 3 i0 _ 1 8 Try.underlying23 hi hz0 hz1 hz2 rfl (by decide) ao 0 0 [] hs (fun _ => ⟨rfl, rfl⟩) (by simp) (by simp) ⟨bx, 0, none⟩ 1 cx [.int .i64 i] hx rfl hnews h1c (by omega) (by unfold maxLen; omega) (by omega) ?_
    intro v' w' h2 h3
    obtain ⟨g, cap', rfl⟩ := own_some h2 (by omega)
    refine h g cap' w' ⟨by rw [e1]; simp, hb, .inr ?_⟩ (Gr.weaken h3)
    rw [e1]
    simpa [Go.Proofs.Ytadidppbhpdnkaa.ints] using own_mono h2 hbw
  · have hroww : w.ownsRow base 3 1 (.slice ao n cap) n (Go.Proofs.Ytadidppbhpdnkaa.ints l) := hrow.kept h0 (by rw [ownBlock_slice]; cases ob ao <;> simp)
    refine app_own w hgd s x 23 ho base 3 i0 _ 1 8 Try.underlying23 hi hz0 hz1 hz2 rfl (by decide) ao n cap (Go.Proofs.Ytadidppbhpdnkaa.ints l) hs hroww ⟨bx, 0, none⟩ 1 cx [.int .i64 i] hx rfl hnews h1c (by unfold maxLen; omega) (by omega) hbw (by omega) ?_
    intro g cap' w' h2 h3 h4
    refine h g cap' w' ⟨by simp [hn], hb, .inr ?_⟩ h3
    rw [show Go.Proofs.Ytadidppbhpdnkaa.ints (l ++ [i]) = Go.Proofs.Ytadidppbhpdnkaa.ints l ++ [.int .i64 i] from by simp [Go.Proofs.Ytadidppbhpdnkaa.ints]]
    exact h2
theorem Lst.own {w : World} {b0 base : Nat} {l : List Int} {ao : Option Addr} {n cap : Nat} (h : Lst w b0 base l ao n cap) : ∀ g, ob ao = some g → b0 ≤ g ∧ g < w.heap.size := by
  intro g hg
  rcases h.2.2 with ⟨_, _, h3⟩ | h4
  · obtain ⟨hb, _, _, hc⟩ := h3 g hg
    exact ⟨hb, lt_of_block hc⟩
  · have := own_block h4 g hg
    have := h.2.1
    omega
theorem Lst.at {w : World} {b0 base : Nat} {l : List Int} {ao : Option Addr} {n cap : Nat} (h : Lst w b0 base l ao n cap) : InAt w (New b0) l ao := by
  have hi := InAt.block h.ints
  exact hi.mono (fun b o hb => (h.own b hb).1) (fun _ _ _ _ h => h)
theorem typesOk_at {l : List Int} (h : typesOk l = true) {k : Nat} (hk : k < l.length) : 1 ≤ l[k] ∧ l[k] ≤ 4 := by
  unfold typesOk at h
  rw [Bool.and_eq_true, List.all_eq_true] at h
  have := h.2 _ (List.getElem_mem hk)
  unfold okT within at this
  simp only [Bool.and_eq_true, decide_eq_true_eq] at this
  omega
set_option maxRecDepth 100000 in
set_option maxHeartbeats 2000000 in
theorem programText_any (p : Pr) (hv : validS p = true) (at' ab : Option Addr) (ct cb : Nat) (w : World) (hT : InAt w Any p.types at') (hB : SlAt w Any p.body ab) :
    Calls Try.prog 92 #[.agg #[.slice at' p.types.length ct, .slice ab p.body.length cb]] w (Texted 2000 w) := by
  have hv' := hv
  unfold validS at hv'
  simp only [Bool.and_eq_true, decide_eq_true_eq] at hv'
  obtain ⟨hty, hbd, hct⟩ := hv'
  have hl6 : p.types.length ≤ 6 := by
    unfold typesOk at hty
    rw [Bool.and_eq_true, decide_eq_true_eq] at hty
    omega
  have HTY := Lib.hid hty
  clear hv hty
  go_enter Try.func92, Try.ntmps92
  go_wp2_with fail
  go_loopw [3, 4] (fun o i wr => ∃ (k : Nat) (s : ByteArray), k ≤ p.types.length ∧ o = .string s ∧ i = .int .i64 k ∧ s.size ≤ k ∧ Gr (w.alloc (.cells #[.slice at' p.types.length ct, .slice ab p.body.length cb] 26)) wr none) (fun _ i _ => p.types.length - (intOf i).toNat)
  case atStart => exact ⟨0, { data := #[] }, Nat.zero_le _, rfl, rfl, by simp [size_mk], Gr.refl _ _⟩
  case round =>
    obtain ⟨k, s, hk, rfl, rfl, hs, hg⟩ := hrel
    have q0 : wr.cell? ⟨w.heap.size, 0, none⟩ = some (.slice at' p.types.length ct) := hg.cell (p := ⟨w.heap.size, 0, none⟩) (cell?_new2 _ _).1 (by simp)
    have q1 : wr.cell? ⟨w.heap.size, 1, none⟩ = some (.slice ab p.body.length cb) := hg.cell (p := ⟨w.heap.size, 1, none⟩) (cell?_new2 _ _).2 (by simp)
    have hg1 : Gr w wr none := ((Gr.refl _ _).alloc _).trans0 hg
    by_cases hlt : k < p.types.length
    · obtain ⟨b, off, rfl, _, hc⟩ := (hT.gr0 hg1).at hlt
      have ht := typesOk_at HTY.out hlt
      obtain ⟨t, ht'⟩ : ∃ t : Nat, p.types[k] = (t : Int) := ⟨p.types[k].toNat, by omega⟩
      rw [ht'] at hc ht
      clear ht'
      have ht4 : t ≤ 4 := by omega
      have hsz : s.size ≤ 10 := by omega
      have hlt2 : w.heap.size < wr.heap.size := lt_of_cell q0
      have hblt : b < wr.heap.size := lt_of_cell hc
      have h14 : t = 1 ∨ t = 2 ∨ t = 3 ∨ t = 4 := by omega
      clear ht ht4
      rcases h14 with rfl | rfl | rfl | rfl
      all_goals
        go_wp2_with fail
        go_roundw
        case rel => exact ⟨k + 1, _, by omega, rfl, by go_num, by show ByteArray.size (_ ++ _) ≤ _; simp [ByteArray.size_append, size_mk]; omega, hg.alloc _⟩
        case measure => simp [intOf]; omega
    · obtain rfl : k = p.types.length := by omega
      go_wp2_with fail
      refine (texts_all 100 (by omega) p.types 4 p.body ab cb _ (by omega) hbd (hB.gr0 hg1)).mono ?_
      rintro e w1 ⟨s1, rfl, hs1, hg2⟩
      have hs1' : s1.size ≤ 990 := by omega
      go_wp2_with fail
      go_ret
      exact ⟨_, rfl, by show ByteArray.size (_ ++ _) ≤ _; simp [ByteArray.size_append, size_mk]; omega, hg1.trans0 hg2⟩

/-- A program was read: few types and statements, in new memory. -/
def ReadP (w : World) (e : Ending) (w' : World) : Prop := ∃ (p : Pr) (at' ab : Option Addr) (ct cb : Nat) (b : Bool),
  e = .returned (.tuple #[.agg #[.slice at' p.types.length ct, .slice ab p.body.length cb], .bool b]) ∧ InAt w' (New w.heap.size) p.types at' ∧ SlAt w' (New w.heap.size) p.body ab ∧ p.types.length ≤ 6 ∧ St.count p.body ≤ 30 ∧ Gr w w' none
theorem ReadP.none (w w' : World) (b : Bool) (hg : Gr w w' Option.none) : ReadP w (.returned (.tuple #[.agg #[.slice Option.none 0 0, .slice Option.none 0 0], .bool b])) w' :=
  ⟨⟨[], []⟩, Option.none, Option.none, 0, 0, b, rfl, by simp [InAt], by simp [SlAt], by simp, by simp [St.count], hg⟩
/-- Two cells are stored. -/
def put2 (w : World) (b : Nat) (v0 v1 : Value) : World := (w.setCell ⟨b, 0, none⟩ v0).setCell ⟨b, 1, none⟩ v1
theorem put2_own (w : World) (b : Nat) (v0 v1 : Value) : Gr w (put2 w b v0 v1) (some b) := ((Gr.refl w (some b)).setOwn rfl v0).setOwn rfl v1
theorem put2_gr {a w : World} {b : Nat} {v0 v1 : Value} (h : Gr a w none) (hb : a.heap.size ≤ b) : Gr a (put2 w b v0 v1) none := h.trans (put2_own w b v0 v1) (fun r hr => .inr (by cases hr; exact hb))
theorem SlAt.put2 {w : World} {b n : Nat} {v0 v1 : Value} {l : List St} {a : Option Addr} (h : SlAt w (New n) l a) (hb : b < n) : SlAt (put2 w b v0 v1) (New b) l a :=
  (SlAt.far h (put2_own w b v0 v1) (fun r hr => by cases hr; omega)).sub fun k _ hk => by unfold New at *; omega
theorem InAt.put2 {w : World} {b n : Nat} {v0 v1 : Value} {l : List Int} {a : Option Addr} (h : InAt w (New n) l a) (hb : b < n) : InAt (put2 w b v0 v1) (New b) l a :=
  (InAt.gr (put2_own w b v0 v1) (fun k o hk e => by cases e; unfold New at hk; omega) h).mono (fun k _ hk => by unfold New at *; omega) (fun _ _ _ _ h => h)
/-- The parser's two programs: the result's, and the one that it builds. -/
def PS (w wr : World) (ao : Option Addr) (n cap : Nat) (l : List Int) : Prop :=
  wr.cell? ⟨w.heap.size + 1, 0, none⟩ = some (.slice ao n cap) ∧ wr.cell? ⟨w.heap.size + 1, 1, none⟩ = some (.slice none 0 0) ∧ (∀ o, wr.frozen? ⟨w.heap.size + 1, o, none⟩ = false) ∧
  wr.cell? ⟨w.heap.size, 0, none⟩ = some (.slice none 0 0) ∧ wr.cell? ⟨w.heap.size, 1, none⟩ = some (.slice none 0 0) ∧ (∀ o, wr.frozen? ⟨w.heap.size, o, none⟩ = false) ∧
  Lst wr (w.heap.size + 2) (w.heap.size + 2) l ao n cap ∧ Gr w wr none
theorem frz_new {w : World} {cs : Array Value} {t : TypeId} {g : Nat} (h : w.heap[g]? = some (.cells cs t (0, 0))) (o : Nat) : w.frozen? ⟨g, o, none⟩ = false := by simp [World.frozen?, h]
theorem PS.start (w : World) : PS w ((w.alloc (.cells #[.slice none 0 0, .slice none 0 0] 26)).alloc (.cells #[.slice none 0 0, .slice none 0 0] 26)) none 0 0 [] :=
  ⟨cell_of_row _ _ _ _ _ _ (heap2_1 _ _ _), cell_of_row _ _ _ _ _ _ (heap2_1 _ _ _), frz_new (heap2_1 _ _ _), cell_of_row _ _ _ _ _ _ (heap2_0 _ _ _), cell_of_row _ _ _ _ _ _ (heap2_0 _ _ _), frz_new (heap2_0 _ _ _), Lst.nil _ (Nat.le_refl _), ((Gr.refl _ _).alloc _).alloc _⟩
theorem PS.size {w wr : World} {ao : Option Addr} {n cap : Nat} {l : List Int} (h : PS w wr ao n cap l) : w.heap.size + 2 ≤ wr.heap.size := by
  have := lt_of_cell h.1; simp at this; omega
/-- One number more. -/
theorem PS.step {w wr w' : World} {ao : Option Addr} {n cap g cap' : Nat} {l : List Int} {x : Int} {o : Obj} (h : PS w wr ao n cap l) (hl : Lst w' (w.heap.size + 2) (w.heap.size + 2) (l ++ [x]) (some ⟨g, 0, none⟩) (n + 1) cap') (hg : Gr (wr.alloc o) w' (ob ao)) :
    PS w (w'.setCell ⟨w.heap.size + 1, 0, none⟩ (.slice (some ⟨g, 0, none⟩) (n + 1) cap')) (some ⟨g, 0, none⟩) (n + 1) cap' (l ++ [x]) := by
  obtain ⟨p0, p1, pf, r0, r1, rf, hL, hG⟩ := h
  have hne : ∀ k, k < w.heap.size + 2 → ob ao ≠ some k := fun k hk e => by have := (hL.own k e).1; omega
  have hG1 : Gr wr (wr.alloc o) none := (Gr.refl _ _).alloc _
  have s1 : w.heap.size + 1 < wr.heap.size := lt_of_cell p0
  have hs : Gr w' (w'.setCell ⟨w.heap.size + 1, 0, none⟩ (.slice (some ⟨g, 0, none⟩) (n + 1) cap')) (some (w.heap.size + 1)) := own_set _ _ _ _
  have mv : ∀ k j v, k < w.heap.size + 2 → wr.cell? ⟨k, j, none⟩ = some v → w'.cell? ⟨k, j, none⟩ = some v := fun k j v hk hc => hg.cell (hG1.cell hc (by simp)) (hne k hk)
  have mf : ∀ k j, k < w.heap.size + 2 → wr.frozen? ⟨k, j, none⟩ = false → w'.frozen? ⟨k, j, none⟩ = false := fun k j hk hc => (hg.frozen (p := ⟨k, j, none⟩) (by simp; omega) (hne k hk)).trans ((hG1.frozen (p := ⟨k, j, none⟩) (by simp; omega) (by simp)).trans hc)
  refine ⟨World.cell?_setCell_same _ _ _ (mv _ _ _ (by omega) p0), ?_, fun o' => ?_, ?_, ?_, fun o' => ?_, ?_, ?_⟩
  · rw [World.cell?_setCell_other _ _ _ _ (by simp)]; exact mv _ _ _ (by omega) p1
  · rw [World.frozen?_setCell]; exact mf _ _ (by omega) (pf o')
  · rw [World.cell?_setCell_other _ _ _ _ (by simp)]; exact mv _ _ _ (by omega) r0
  · rw [World.cell?_setCell_other _ _ _ _ (by simp)]; exact mv _ _ _ (by omega) r1
  · rw [World.frozen?_setCell]; exact mf _ _ (by omega) (rf o')
  · refine ⟨hl.1, hl.2.1, ?_⟩
    rcases hl.2.2 with ⟨e, _⟩ | hown
    · exact absurd e (by simp)
    · exact .inr (hown.kept hs (by rw [ownBlock_slice]; exact .inr (fun e => by have := (own_block hown (w.heap.size + 1) (by rw [← e])).1; omega)))
  · exact ((hG.alloc o).trans hg (fun r hr => .inr (by have := (hL.own r hr).1; omega))).setNew (by simp) _
theorem PS.after {w wr w' : World} {ao : Option Addr} {n cap : Nat} {l : List Int} {o : Obj} (h : PS w wr ao n cap l) (hg : Gr (wr.alloc o) w' (ob ao)) :
    w'.cell? ⟨w.heap.size + 1, 0, none⟩ = some (.slice ao n cap) ∧ w'.frozen? ⟨w.heap.size + 1, 0, none⟩ = false := by
  have hs := h.size
  obtain ⟨p0, p1, pf, r0, r1, rf, hL, hG⟩ := h
  have hne : ∀ k, k < w.heap.size + 2 → ob ao ≠ some k := fun k hk e => by have := (hL.own k e).1; omega
  have hG1 : Gr wr (wr.alloc o) none := (Gr.refl _ _).alloc _
  exact ⟨hg.cell (hG1.cell p0 (by simp)) (hne (w.heap.size + 1) (by omega)), (hg.frozen (p := ⟨w.heap.size + 1, 0, none⟩) (by simp; omega) (hne (w.heap.size + 1) (by omega))).trans ((hG1.frozen (p := ⟨w.heap.size + 1, 0, none⟩) (by simp; omega) (by simp)).trans (pf 0))⟩
set_option maxRecDepth 100000 in
set_option maxHeartbeats 4000000 in
theorem parseProgram_any (s : ByteArray) (w : World) (hs : s.size ≤ 1000000) : Calls Try.prog 78 #[.string s] w (ReadP w) := by
  by_cases h6 : 600 < s.size
  · go_enter Try.func78, Try.ntmps78
    go_wp2_with fail
    refine bodyPost_ret (v := .tuple #[.agg #[.slice none 0 0, .slice none 0 0], .bool false]) (by simp [results, Try.results78, go_sem]) rfl ?_
    exact ReadP.none _ _ _ ((Gr.refl _ _).alloc _)
  · have hs6 : s.size ≤ 600 := by omega
    have hP0 := PS.start w
    go_enter Try.func78, Try.ntmps78
    go_wp2_with fail
    go_loopw [5] (fun i wr => ∃ (k n cap : Nat) (ao : Option Addr) (l : List Int), k ≤ s.size ∧ n ≤ k ∧ i = .int .i64 k ∧ PS w wr ao n cap l) (fun i _ => s.size - (intOf i).toNat)
    case atStart => exact ⟨0, 0, 0, none, [], Nat.zero_le _, Nat.le_refl _, rfl, hP0⟩
    case round =>
      clear hP0
      obtain ⟨k, n, cap, ao, l, hk, hnk, rfl, hPS⟩ := hrel
      have hsz := hPS.size
      have HP := Lib.hid hPS
      obtain ⟨p0, p1, pf, r0, r1, rf, hL, hG⟩ := hPS
      have HL := Lib.hid hL
      clear hL
      by_cases hlt : k < s.size
      · by_cases h58 : (s[k].toNat : Int) = 58
        · have hk1 : (k : Int) + 1 ≤ s.size := by omega
          go_wp2_with fail
          refine (list_all 4 (by omega) s ((k : Int) + 1) _ hs6 (by omega) (by omega)).mono ?_
          rintro e w1 ⟨L, aL, cL, next, rfl, hLa, hg1, hn⟩
          have hG1 := hG.trans0 hg1
          have hw1 : wr.heap.size ≤ w1.heap.size := hg1.size
          replace p0 := hg1.cell p0 (by simp)
          replace p1 := hg1.cell p1 (by simp)
          replace r0 := hg1.cell r0 (by simp)
          replace r1 := hg1.cell r1 (by simp)
          have pf1 : w1.frozen? ⟨w.heap.size + 1, 1, none⟩ = false := (hg1.frozen (p := ⟨w.heap.size + 1, 1, none⟩) (by simp; omega) (by simp)).trans (pf 1)
          have rf0 : w1.frozen? ⟨w.heap.size, 0, none⟩ = false := (hg1.frozen (p := ⟨w.heap.size, 0, none⟩) (by simp; omega) (by simp)).trans (rf 0)
          have rf1 : w1.frozen? ⟨w.heap.size, 1, none⟩ = false := (hg1.frozen (p := ⟨w.heap.size, 1, none⟩) (by simp; omega) (by simp)).trans (rf 1)
          have hLI := (HL.out.at).gr0 hg1
          have hnl : l.length = n := HL.out.1
          have hcl : St.count L ≤ 600 := by rcases hn with ⟨_, rfl⟩ | ⟨_, _, _, _⟩ <;> first | (simp [St.count]; done) | omega
          subst hnl
          clear hn pf rf hG hg1 HP HL
          have hs1 : Gr w1 (w1.setCell ⟨w.heap.size + 1, 1, none⟩ (.slice aL L.length cL)) (some (w.heap.size + 1)) := own_set _ _ _ _
          have hI2 : InAt (w1.setCell ⟨w.heap.size + 1, 1, none⟩ (.slice aL L.length cL)) (New (w.heap.size + 2)) l ao := InAt.gr hs1 (fun b o hb e => by cases e; unfold New at hb; omega) hLI
          have hS2 : SlAt (w1.setCell ⟨w.heap.size + 1, 1, none⟩ (.slice aL L.length cL)) (New wr.heap.size) L aL := SlAt.far hLa hs1 (fun r hr => by cases hr; omega)
          have hG2 : Gr w (w1.setCell ⟨w.heap.size + 1, 1, none⟩ (.slice aL L.length cL)) none := hG1.setNew (p := ⟨w.heap.size + 1, 1, none⟩) (by show w.heap.size ≤ w.heap.size + 1; omega) _
          have HI2 := Lib.hid hI2
          have HS2 := Lib.hid hS2
          have HG2 := Lib.hid hG2
          have hlc := length_count L
          clear hs1 hI2 hS2 hG2 hLI hLa hG1
          by_cases hnx : next = s.size
          · subst hnx
            go_wp2_with fail
            refine (validS_any ⟨l, L⟩ ao aL cap cL _ HI2.out.any HS2.out.any (by show l.length ≤ _; omega) (by show St.count L ≤ _; omega) (by show L.length ≤ _; omega)).mono ?_
            rintro e w3 ⟨rfl, hg3⟩
            have hw3 : w1.heap.size ≤ w3.heap.size := by have := hg3.size; simpa [World.setCell] using this
            have t0 : w3.cell? ⟨w.heap.size + 1, 0, none⟩ = some (.slice ao l.length cap) := hg3.cell (by rw [World.cell?_setCell_other _ _ _ _ (by simp)]; exact p0) (by simp)
            have t1 : w3.cell? ⟨w.heap.size + 1, 1, none⟩ = some (.slice aL L.length cL) := hg3.cell (World.cell?_setCell_same _ _ _ p1) (by simp)
            have u0 : w3.cell? ⟨w.heap.size, 0, none⟩ = some (.slice none 0 0) := hg3.cell (by rw [World.cell?_setCell_other _ _ _ _ (by simp)]; exact r0) (by simp)
            have u1 : w3.cell? ⟨w.heap.size, 1, none⟩ = some (.slice none 0 0) := hg3.cell (by rw [World.cell?_setCell_other _ _ _ _ (by simp)]; exact r1) (by simp)
            have g0 : w3.frozen? ⟨w.heap.size, 0, none⟩ = false := (hg3.frozen (p := ⟨w.heap.size, 0, none⟩) (by simp [World.setCell]; omega) (by simp)).trans (by rw [World.frozen?_setCell]; exact rf0)
            have g1 : w3.frozen? ⟨w.heap.size, 1, none⟩ = false := (hg3.frozen (p := ⟨w.heap.size, 1, none⟩) (by simp [World.setCell]; omega) (by simp)).trans (by rw [World.frozen?_setCell]; exact rf1)
            have HI3 := Lib.hid (HI2.out.gr0 hg3)
            have HS3 := Lib.hid (HS2.out.gr0 hg3)
            have HG3 := Lib.hid (HG2.out.trans0 hg3)
            clear p0 p1 r0 r1 pf1 rf0 rf1 hg3
            cases hv : validS ⟨l, L⟩ with
            | false =>
              go_wp2_with fail
              refine bodyPost_ret (v := .tuple #[.agg #[.slice none 0 0, .slice none 0 0], .bool false]) (by simp [results, Try.results78, go_sem, u0, u1]) rfl ?_
              exact ReadP.none w (put2 _ w.heap.size _ _) _ (put2_gr HG3.out (Nat.le_refl _))
            | true =>
              have HV := Lib.hid hv
              clear hv
              go_wp2_with fail
              refine (programText_any ⟨l, L⟩ HV.out ao aL cap cL _ HI3.out.any HS3.out.any).mono ?_
              rintro e w4 ⟨s4, rfl, hs4, hg4⟩
              have hw4 : w3.heap.size ≤ w4.heap.size := hg4.size
              replace t0 := hg4.cell t0 (by simp)
              replace t1 := hg4.cell t1 (by simp)
              replace u0 := hg4.cell u0 (by simp)
              replace u1 := hg4.cell u1 (by simp)
              replace g0 : w4.frozen? ⟨w.heap.size, 0, none⟩ = false := (hg4.frozen (p := ⟨w.heap.size, 0, none⟩) (by simp; omega) (by simp)).trans g0
              replace g1 : w4.frozen? ⟨w.heap.size, 1, none⟩ = false := (hg4.frozen (p := ⟨w.heap.size, 1, none⟩) (by simp; omega) (by simp)).trans g1
              have HI4 := Lib.hid (HI3.out.gr0 hg4)
              have HS4 := Lib.hid (HS3.out.gr0 hg4)
              have HG4 := Lib.hid (HG3.out.trans0 hg4)
              clear hg4
              have hv6 : l.length ≤ 6 := by
                have h := HV.out
                unfold validS typesOk at h
                simp only [Bool.and_eq_true, decide_eq_true_eq] at h
                omega
              have hv30 : St.count L ≤ 30 := by
                have h := HV.out
                unfold validS at h
                simp only [Bool.and_eq_true, decide_eq_true_eq] at h
                exact h.2.2
              go_wp2_with fail
              · refine bodyPost_ret (v := .tuple #[.agg #[.slice none 0 0, .slice none 0 0], .bool false]) (by simp [results, Try.results78, go_sem, u0, u1]) rfl ?_
                exact ReadP.none w (put2 _ w.heap.size _ _) _ (put2_gr HG4.out (Nat.le_refl _))
              · refine bodyPost_ret (v := .tuple #[.agg #[.slice ao l.length cap, .slice aL L.length cL], .bool true]) (by simp [results, Try.results78, go_sem, u0, u1]) rfl ?_
                exact ⟨⟨l, L⟩, ao, aL, cap, cL, true, rfl, HI4.out.put2 (by omega), HS4.out.put2 (by omega), hv6, hv30, put2_gr HG4.out (Nat.le_refl _)⟩
          · go_wp2_with fail
            refine bodyPost_ret (v := .tuple #[.agg #[.slice none 0 0, .slice none 0 0], .bool false]) (by simp [results, Try.results78, go_sem, r0, r1]) rfl ?_
            exact ReadP.none w (put2 _ w.heap.size _ _) _ (put2_gr HG2.out (Nat.le_refl _))
        · clear p1 r0 r1 rf
          have hpf := pf 0
          go_wp2_with (at_builtin; refine app_l2 wr _ rfl (.tmp 36) (.tmp 38) rfl (w.heap.size + 2) (w.heap.size + 2) ao cap n l _ rfl HL.out ((Gr.refl _ _).alloc _) wr.heap.size 1 rfl (cell_of_row _ _ _ _ _ _ (heap1_0 _ _)) (by omega) hsz ?_; rintro g cap' w2 hL2 hg2; obtain ⟨q0, qf⟩ := HP.out.after hg2)
          all_goals
            go_roundw
            case rel => exact ⟨k + 1, n + 1, cap', _, _, by omega, by omega, by go_num, HP.out.step hL2 hg2⟩
            case measure => simp [intOf]; omega
      · obtain rfl : k = s.size := by omega
        have rf0 := rf 0
        have rf1 := rf 1
        clear p0 p1 pf rf
        go_wp2_with fail
        refine bodyPost_ret (v := .tuple #[.agg #[.slice none 0 0, .slice none 0 0], .bool false]) (by simp [results, Try.results78, go_sem, r0, r1]) rfl ?_
        exact ReadP.none w (put2 wr w.heap.size _ _) _ (put2_gr hG (Nat.le_refl _))
end Go.Proofs.Ytadidppbhpdnkaa
