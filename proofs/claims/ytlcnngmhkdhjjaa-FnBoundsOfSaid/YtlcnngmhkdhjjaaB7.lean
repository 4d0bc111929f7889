/- Walks of the texts of programs, weakly: a text that is not too long comes back. -/
/- Walks of the texts of lists and programs, and of the parser of programs, weakly. -/
import Derived.Test.YtlcnngmhkdhjjaaB5

import Derived.Deep.RegionHeld3

namespace Go.Proofs.Ytlcnngmhkdhjjaa

open Go.RowKit

/-- A text of at most m bytes. -/
def Texted (m : Nat) (w : World) (e : Ending) (w' : World) : Prop := ∃ s : ByteArray, e = .returned (.string s) ∧ s.size ≤ m ∧ Gr w w' none
theorem conv1 (u : World) (x : Int) : ∀ dst, Try.prog.underlying dst = some .string → (convert 22 dst (.slice (some ⟨u.heap.size, 0, none⟩) 1 1)).run Try.prog (u.alloc (.cells #[.int .u8 x] 5)) = .ok (.string (strOfNums [x])) (u.alloc (.cells #[.int .u8 x] 5)) :=
  run_convert_bytes_arg _ _ _ Try.underlying22 Try.underlying5 u.heap.size 0 1 1 [x] rfl (fun i hi => by
    rw [cell_of_row _ _ _ _ _ _ (heap1_0 _ _)]
    obtain rfl : i = 0 := by omega
    rfl)
theorem str1 (x : Int) : (strOfNums [x]).size = 1 := rfl
set_option maxRecDepth 100000 in
theorem l1Letter_any (v : Int) (w : World) : Calls Try.prog 158 #[.int .i64 v] w (Texted 1 w) := by
  have kc := fun (u : World) (x : Int) => conv1 u x 9 Try.underlying9
  go_enter Try.func158, Try.ntmps158
  go_wp2
  go_ret
  exact ⟨_, rfl, Nat.le_of_eq (str1 _), (Gr.refl _ _).alloc _⟩
set_option maxRecDepth 100000 in
theorem l17Dec_any (v : Int) (h0 : 0 ≤ v) (h9 : v ≤ 9) (w : World) : Calls Try.prog 159 #[.int .i64 v] w (Texted 1 w) := by
  have kc := fun (u : World) (x : Int) => conv1 u x 9 Try.underlying9
  go_enter Try.func159, Try.ntmps159
  go_wp2_with fail
  go_loop [0, 3] (fun x o => x = .int .i64 v ∧ o = .string { data := #[] }) (fun _ _ => 0)
  case atStart => exact ⟨rfl, rfl⟩
  case round =>
    obtain ⟨rfl, rfl⟩ := hrel
    have kc' := fun (u : World) (x : Int) => conv1 u x 9 Try.underlying9
    have hs1 := str1 (48 + v)
    obtain ⟨s, hs⟩ : ∃ s, strOfNums [48 + v] = s := ⟨_, rfl⟩
    rw [hs] at hs1
    go_wp2
    go_ret
    exact ⟨s ++ { data := #[] }, rfl, by rw [ByteArray.size_append, hs1]; decide, (Gr.refl _ _).alloc _⟩

theorem size_mk (a : Array UInt8) : (ByteArray.mk a).size = a.size := rfl
def TC (n : Nat) : Prop := ∀ (types : List Int) (d : Int) (l : List St) (a : Option Addr) (c : Nat) (w : World), St.count l ≤ n → bodyS types l d = true → SlAt w Any l a →
  Calls Try.prog 148 #[.slice a l.length c] w (Texted (33 * St.count l) w)
theorem stS_num {types : List Int} {op x y n : Int} {t e : List St} {d : Int} (h : stS types (.mk op x y n t e) d = true) (ho : op = 1 ∨ op = 2) : 0 ≤ n ∧ n ≤ 9 := by
  simp only [stS] at h
  rcases ho with rfl | rfl
  · simp [simpleS] at h; omega
  · simp [simpleS] at h; omega
theorem stS_op {types : List Int} {op x y n : Int} {t e : List St} {d : Int} (h : stS types (.mk op x y n t e) d = true) : (1 ≤ op ∧ op ≤ 8) ∨ ((op = 9 ∨ op = 10) ∧ bodyS types t (d - 1) = true ∧ bodyS types e (d - 1) = true) := by
  simp only [stS] at h
  split at h
  · rename_i h9
    refine .inl ?_
    simp only [Bool.and_eq_true] at h
    have h2 := h.2.2
    unfold simpleS at h2
    by_cases o1 : op = 1
    · omega
    · by_cases o2 : op = 2
      · omega
      · by_cases o3 : op = 3
        · omega
        · by_cases o4 : op = 4
          · omega
          · by_cases o5 : op = 5
            · omega
            · by_cases o6 : op = 6
              · omega
              · by_cases o7 : op = 7
                · omega
                · by_cases o8 : op = 8
                  · omega
                  · simp [o1, o2, o3, o4, o5, o6, o7, o8] at h2
  · rename_i h9
    refine .inr ?_
    split at h
    · simp at h
    · simp only [Bool.and_eq_true] at h
      exact ⟨by simp at h9; omega, h.1, h.2⟩
set_option maxRecDepth 100000 in
set_option maxHeartbeats 8000000 in
theorem text_step (n : Nat) (hn : n ≤ 10000) (hL : TC n) (types : List Int) (d : Int) (op x y k : Int) (t e : List St) (hv : stS types (.mk op x y k t e) d = true) (at' ae : Option Addr) (ct ce : Nat) (w : World) (ht : SlAt w Any t at') (he : SlAt w Any e ae) (hin : St.count t + St.count e ≤ n) :
    Calls Try.prog 156 #[.agg #[.int .i64 op, .int .i64 x, .int .i64 y, .int .i64 k, .slice at' t.length ct, .slice ae e.length ce]] w (Texted (32 + 33 * (St.count t + St.count e)) w) := by
  have HL := Lib.hid hL
  have hnum := fun ho => stS_num hv ho
  have hop := stS_op hv
  have HNUM := Lib.hid hnum
  clear hL hnum hv
  have hgA : ∀ o, Gr w (w.alloc o) none := fun o => (Gr.refl _ _).alloc _
  have B : ∀ o : Obj, ∀ (w1 : World), Gr (w.alloc (.cells #[.int .i64 op, .int .i64 x, .int .i64 y, .int .i64 k, .slice at' t.length ct, .slice ae e.length ce] 110)) w1 none → w1.heap[w.heap.size]? = some (.cells #[.int .i64 op, .int .i64 x, .int .i64 y, .int .i64 k, .slice at' t.length ct, .slice ae e.length ce] 110 (0, 0)) := fun _ w1 hg => (hg.block _ (by simp) (by simp)).trans (heap1_0 _ _)
  have HB := Lib.hid B
  clear B
  rcases hop with ⟨h1, h8⟩ | ⟨h9, hbt, hbe⟩
  · have hlt : op < 9 := by omega
    go_enter Try.func156, Try.ntmps156
    go_wp2_with fail
    refine (l1Letter_any _ _).mono ?_
    rintro e1 w1 ⟨s1, rfl, hs1, hg1⟩
    have hb := HB.out (.cells #[] 0) w1 hg1
    have c2 := cell_of_row _ _ 2 _ _ _ hb
    simp at c2
    clear hb
    go_wp2_with fail
    refine (l1Letter_any _ _).mono ?_
    rintro e1 w2 ⟨s2, rfl, hs2, hg2⟩
    have hG2 := hg1.trans0 hg2
    have hb := HB.out (.cells #[] 0) w2 hG2
    have c0 := cell_of_row _ _ 0 _ _ _ hb
    have c3 := cell_of_row _ _ 3 _ _ _ hb
    simp at c0 c3
    have HG2 := Lib.hid ((hgA _).trans0 hG2)
    clear hb hg1 hg2 c2 hG2
    by_cases o1 : op = 1
    · have hk := HNUM.out (.inl o1)
      subst o1
      go_wp2_with fail
      refine (l17Dec_any k hk.1 hk.2 _).mono ?_
      rintro e1 w3 ⟨s3, rfl, hs3, hg3⟩
      go_wp2_with fail
      go_ret
      exact ⟨_, rfl, by show ByteArray.size (_ ++ _) ≤ _; simp [ByteArray.size_append, size_mk]; omega, HG2.out.trans0 hg3⟩
    · by_cases o2 : op = 2
      · have hk := HNUM.out (.inr o2)
        subst o2
        go_wp2_with fail
        refine (l17Dec_any k hk.1 hk.2 _).mono ?_
        rintro e1 w3 ⟨s3, rfl, hs3, hg3⟩
        go_wp2_with fail
        go_ret
        exact ⟨_, rfl, by show ByteArray.size (_ ++ _) ≤ _; simp [ByteArray.size_append, size_mk]; omega, HG2.out.trans0 hg3⟩
      · have h38 : op = 3 ∨ op = 4 ∨ op = 5 ∨ op = 6 ∨ op = 7 ∨ op = 8 := by omega
        clear o1 o2 h1 h8 hlt
        rcases h38 with rfl | rfl | rfl | rfl | rfl | rfl
        all_goals
          go_wp2_with fail
          go_ret
          exact ⟨_, rfl, by show ByteArray.size (_ ++ _) ≤ _; simp [ByteArray.size_append, size_mk]; omega, HG2.out⟩
  · have hge : ¬ op < 9 := by omega
    rcases h9 with rfl | rfl
    · clear hge
      go_enter Try.func156, Try.ntmps156
      go_upto_region 25 with fail
      have e4 : (w.alloc (.cells #[.int .i64 9, .int .i64 x, .int .i64 y, .int .i64 k, .slice at' t.length ct, .slice ae e.length ce] 110)).cell? ⟨w.heap.size, 4, none⟩ = some (.slice at' t.length ct) := cell_of_row _ _ 4 _ _ _ (heap1_0 _ _)
      have e5 : (w.alloc (.cells #[.int .i64 9, .int .i64 x, .int .i64 y, .int .i64 k, .slice at' t.length ct, .slice ae e.length ce] 110)).cell? ⟨w.heap.size, 5, none⟩ = some (.slice ae e.length ce) := cell_of_row _ _ 5 _ _ _ (heap1_0 _ _)
      have hgW := hgA (.cells #[.int .i64 9, .int .i64 x, .int .i64 y, .int .i64 k, .slice at' t.length ct, .slice ae e.length ce] 110)
      obtain ⟨wA, hwA⟩ : ∃ wA : World, wA = w.alloc (.cells #[.int .i64 9, .int .i64 x, .int .i64 y, .int .i64 k, .slice at' t.length ct, .slice ae e.length ce] 110) := ⟨_, rfl⟩
      rw [← hwA] at e4 e5 hgW ⊢
      clear hwA HB HNUM
      refine wp_region_held_drew (S := fun w' => Gr wA w' none) (by kernel_rfl) (Gr.refl _ _).drew (fun hHeld => ?_)
      refine wpAnyH_take (i := 0) (v := ?_) rfl (by kernel_rfl) (by kernel_rfl) (by kernel_rfl) (fun _ _ _ h => h) (Or.inl ⟨by rfl, ?_⟩) hHeld ?_
      rotate_left
      focus (intro wq hq; clear hq; go_simp; try with_reducible rfl)
      simp only [Act.put, List.getElem_toArray, List.getElem_cons_zero, List.setIfInBounds_toArray, List.set_cons_zero, List.set_cons_succ]
      refine wpAnyH_take (i := 1) (v := ?_) rfl (by kernel_rfl) (by kernel_rfl) (by kernel_rfl) (fun _ _ _ h => h) (Or.inl ⟨by rfl, ?_⟩) hHeld ?_
      rotate_left
      focus (intro wq hq; have k0 := Gr.cell hq e4 (by simp); go_simp; try with_reducible rfl)
      simp only [Act.put, List.getElem_toArray, List.getElem_cons_succ, List.getElem_cons_zero, List.setIfInBounds_toArray, List.set_cons_zero, List.set_cons_succ]
      refine wpAnyH_take (i := 5) (v := ?_) rfl (by kernel_rfl) (by kernel_rfl) (by kernel_rfl) (fun _ _ _ h => h) (Or.inl ⟨by rfl, ?_⟩) hHeld ?_
      rotate_left
      focus (intro wq hq; clear hq; go_simp; try with_reducible rfl)
      simp only [Act.put, List.getElem_toArray, List.getElem_cons_succ, List.getElem_cons_zero, List.setIfInBounds_toArray, List.set_cons_zero, List.set_cons_succ]
      refine wpAnyH_take (i := 6) (v := ?_) rfl (by kernel_rfl) (by kernel_rfl) (by kernel_rfl) (fun _ _ _ h => h) (Or.inl ⟨by rfl, ?_⟩) hHeld ?_
      rotate_left
      focus (intro wq hq; have k0 := Gr.cell hq e5 (by simp); go_simp; try with_reducible rfl)
      simp only [Act.put, List.getElem_toArray, List.getElem_cons_succ, List.getElem_cons_zero, List.setIfInBounds_toArray, List.set_cons_zero, List.set_cons_succ]
      refine wpAnyH_ready (rs := [2]) (by kernel_rfl) (by simp) ?_
      refine AllReadyH.cons rfl (fun K hK => ?_) AllReadyH.nil
      go_simp
      refine (HL.out types (d - 1) t at' ct _ (by omega) hbt ((ht.gr0 hgW).gr0 hHeld)).mono ?_
      rintro e1 w1 ⟨s1, rfl, hs1, hg1⟩
      have hb1 : s1.size ≤ 340000 := by omega
      try dsimp only
      refine hK.out _ _ (Gr.trans0 (show Gr wA _ none from hHeld) hg1) (fun hHeld => ?_)
      clear hK K
      try simp only [Act.put, List.getElem_toArray, List.getElem_cons_succ, List.getElem_cons_zero, List.setIfInBounds_toArray, List.set_cons_zero, List.set_cons_succ]
      refine wpAnyH_take (i := 3) (v := ?_) rfl (by kernel_rfl) (by kernel_rfl) (by kernel_rfl) (fun _ _ _ h => h) (Or.inl ⟨by rfl, ?_⟩) hHeld ?_
      rotate_left
      focus (intro wq hq; clear hq; go_simp; (rw [if_neg (by first | omega | (simp [ByteArray.size_append, size_mk]; omega))]; try with_reducible rfl))
      simp only [Act.put, List.getElem_toArray, List.getElem_cons_succ, List.getElem_cons_zero, List.setIfInBounds_toArray, List.set_cons_zero, List.set_cons_succ]
      refine wpAnyH_take (i := 4) (v := ?_) rfl (by kernel_rfl) (by kernel_rfl) (by kernel_rfl) (fun _ _ _ h => h) (Or.inl ⟨by rfl, ?_⟩) hHeld ?_
      rotate_left
      focus (intro wq hq; clear hq; go_simp; (rw [if_neg (by first | omega | (simp [ByteArray.size_append, size_mk]; omega))]; try with_reducible rfl))
      simp only [Act.put, List.getElem_toArray, List.getElem_cons_succ, List.getElem_cons_zero, List.setIfInBounds_toArray, List.set_cons_zero, List.set_cons_succ]
      refine wpAnyH_ready (rs := [7]) (by kernel_rfl) (by simp) ?_
      refine AllReadyH.cons rfl (fun K hK => ?_) AllReadyH.nil
      go_simp
      refine (HL.out types (d - 1) e ae ce _ (by omega) hbe ((he.gr0 hgW).gr0 hHeld)).mono ?_
      rintro e2 w2 ⟨s2, rfl, hs2, hg2⟩
      have hb2 : s2.size ≤ 340000 := by omega
      try dsimp only
      refine hK.out _ _ (Gr.trans0 (show Gr wA _ none from hHeld) hg2) (fun hHeld => ?_)
      clear hK K
      try simp only [Act.put, List.getElem_toArray, List.getElem_cons_succ, List.getElem_cons_zero, List.setIfInBounds_toArray, List.set_cons_zero, List.set_cons_succ]
      refine wpAnyH_take (i := 8) (v := ?_) rfl (by kernel_rfl) (by kernel_rfl) (by kernel_rfl) (fun _ _ _ h => h) (Or.inl ⟨by rfl, ?_⟩) hHeld ?_
      rotate_left
      focus (intro wq hq; clear hq; go_simp; (rw [if_neg (by first | omega | (simp [ByteArray.size_append, size_mk]; omega))]; try with_reducible rfl))
      simp only [Act.put, List.getElem_toArray, List.getElem_cons_succ, List.getElem_cons_zero, List.setIfInBounds_toArray, List.set_cons_zero, List.set_cons_succ]
      refine wpAnyH_take (i := 9) (v := ?_) rfl (by kernel_rfl) (by kernel_rfl) (by kernel_rfl) (fun _ _ _ h => h) (Or.inl ⟨by rfl, ?_⟩) hHeld ?_
      rotate_left
      focus (intro wq hq; clear hq; go_simp; (rw [if_neg (by first | omega | (simp [ByteArray.size_append, size_mk]; omega))]; try with_reducible rfl))
      simp only [Act.put, List.getElem_toArray, List.getElem_cons_succ, List.getElem_cons_zero, List.setIfInBounds_toArray, List.set_cons_zero, List.set_cons_succ]
      refine wpAnyH_take (i := 10) (v := ?_) rfl (by kernel_rfl) (by kernel_rfl) (by kernel_rfl) (fun _ _ _ h => h) (Or.inl ⟨by rfl, ?_⟩) hHeld ?_
      rotate_left
      focus (intro wq hq; clear hq; go_simp; try with_reducible rfl)
      simp only [Act.put, List.getElem_toArray, List.getElem_cons_succ, List.getElem_cons_zero, List.setIfInBounds_toArray, List.set_cons_zero, List.set_cons_succ]
      refine wpAnyH_done (by kernel_rfl) ?_ _
      go_wp2_with fail
      go_ret
      exact ⟨_, rfl, by show ByteArray.size (_ ++ _) ≤ _; simp [ByteArray.size_append, size_mk]; omega, hgW.trans0 hHeld⟩
    · have hb := heap1_0 w (.cells #[.int .i64 10, .int .i64 x, .int .i64 y, .int .i64 k, .slice at' t.length ct, .slice ae e.length ce] 110)
      clear hge HB HNUM hb
      go_enter Try.func156, Try.ntmps156
      go_wp2_with fail
      refine (HL.out types (d - 1) t at' ct _ (by omega) hbt (ht.gr0 (hgA _))).mono ?_
      rintro e1 w1 ⟨s1, rfl, hs1, hg1⟩
      have hs1' : s1.size ≤ 340000 := by omega
      go_wp2_with fail
      go_ret
      exact ⟨_, rfl, by show ByteArray.size (_ ++ _) ≤ _; simp [ByteArray.size_append, size_mk]; omega, (hgA _).trans0 hg1⟩
end Go.Proofs.Ytlcnngmhkdhjjaa

namespace Go.Proofs.Ytlcnngmhkdhjjaa

open Go.RowKit

set_option maxRecDepth 100000 in
set_option maxHeartbeats 4000000 in
theorem texts_step (n : Nat) (hn : n ≤ 10000) (hA : ∀ m, m < n → TC m) : TC n := by
  intro types d l a c w hcn hv hl
  have HA := Lib.hid hA
  have hlc := length_count l
  have HV := Lib.hid hv
  clear hA hv
  go_enter Try.func148, Try.ntmps148
  go_wp2
  go_loopw [3, 4] (fun o i wr => ∃ (k : Nat) (s : ByteArray), k ≤ l.length ∧ o = .string s ∧ i = .int .i64 k ∧ s.size ≤ 33 * St.count (l.take k) ∧ Gr w wr none) (fun _ i _ => l.length - (intOf i).toNat)
  case atStart => exact ⟨0, { data := #[] }, Nat.zero_le _, rfl, rfl, by simp [size_mk], Gr.refl _ _⟩
  case round =>
    obtain ⟨k, s, hk, rfl, rfl, hs, hg⟩ := hrel
    by_cases hlt : k < l.length
    · obtain ⟨b, off, rfl, hst⟩ := (hl.gr0 hg).at hlt
      have hct := count_take_succ hlt
      have htl := count_take_le l (k + 1)
      have hvs : stS types l[k] d = true := by
        have := HV.out
        rw [bodyS_all, List.all_eq_true] at this
        exact this _ (List.getElem_mem hlt)
      obtain ⟨q, hq⟩ : ∃ q, l[k] = q := ⟨_, rfl⟩
      rw [hq] at hst hvs hct
      obtain ⟨m0, hm0⟩ : ∃ m0, St.count (l.take k) = m0 := ⟨_, rfl⟩
      obtain ⟨m1, hm1⟩ : ∃ m1, St.count (l.take (k + 1)) = m1 := ⟨_, rfl⟩
      rw [hm0] at hs hct
      rw [hm1] at hct htl
      have HM1 := Lib.hid hm1
      clear hq hm0 hm1
      obtain ⟨op, x, y, kk, t, e⟩ := q
      obtain ⟨_, htm, hem, at', ct, ae, ce, c0, c1, c2, c3, c4, c5, r4, r5⟩ := hst.out
      simp only [St.op, St.x, St.y, St.n, St.thn, St.els] at c0 c1 c2 c3 c4 c5 r4 r5 htm hem
      have hin : (St.mk op x y kk t e).inner = St.count t + St.count e := rfl
      have HIN := Lib.hid hin
      have HCT := Lib.hid hct
      have hsz : s.size ≤ 330000 := by omega
      have hmm : St.count t + St.count e < n := by rw [← hin]; omega
      clear hst hin hct
      by_cases h0 : k = 0
      · subst h0
        rw [show off + 0 * 6 = off from by omega] at c0 c1 c2 c3 c4 c5
        go_wp2_with fail
        refine (text_step (St.count t + St.count e) (by omega) (HA.out _ hmm) types d op x y kk t e hvs at' ae ct ce _ r4 r5 (Nat.le_refl _)).mono ?_
        rintro e1 w1 ⟨s1, rfl, hs1, hg1⟩
        have hs1' : s1.size ≤ 330032 := by omega
        go_wp2_with fail
        go_roundw
        case rel => exact ⟨1, _, by omega, rfl, by go_num, by simp only [ByteArray.size_append]; rw [HM1.out]; have := HCT.out; have := HIN.out; omega, hg.trans0 hg1⟩
        case measure => simp [intOf]; omega
      · have h1 : 0 < k := by omega
        go_wp2_with fail
        refine (text_step (St.count t + St.count e) (by omega) (HA.out _ hmm) types d op x y kk t e hvs at' ae ct ce _ r4 r5 (Nat.le_refl _)).mono ?_
        rintro e1 w1 ⟨s1, rfl, hs1, hg1⟩
        have hs1' : s1.size ≤ 330032 := by omega
        go_wp2_with fail
        go_roundw
        case rel => exact ⟨k + 1, _, by omega, rfl, by go_num, by simp only [ByteArray.size_append, size_mk]; rw [HM1.out]; have := HCT.out; have := HIN.out; simp; omega, hg.trans0 hg1⟩
        case measure => simp [intOf]; omega
    · obtain rfl : k = l.length := by omega
      go_wp2
      go_ret
      exact ⟨s, rfl, by rw [List.take_length] at hs; exact hs, hg⟩
theorem texts_all : ∀ n, n ≤ 10000 → TC n := fun n => Nat.strongRecOn n (fun n ih hn => texts_step n hn (fun m hm => ih m hm (by omega)))
end Go.Proofs.Ytlcnngmhkdhjjaa
