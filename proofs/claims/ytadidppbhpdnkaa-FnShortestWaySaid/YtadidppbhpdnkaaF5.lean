/- Walks of slices.Contains on ints, and of WayChoices of the program. -/
import Derived.Test.YtadidppbhpdnkaaZ5

namespace Go.Proofs.Ytadidppbhpdnkaa

open Go.RowKit

/-- What Index says: is there one? -/
def FoundI (l : List Int) (x : Int) (w : World) (e : Ending) (w' : World) : Prop := ∃ r : Int, e = .returned (.int .i64 r) ∧ decide (0 ≤ r) = decide (x ∈ l) ∧ w = w'
set_option maxHeartbeats 400000 in
theorem idxI_any (l : List Int) (x : Int) (a : Option Addr) (c : Nat) (w : World) (h : InAt w Any l a) (hl : l.length ≤ 1048576) :
    Calls Try.prog 88 #[.slice a l.length c, .int .i64 x] w (FoundI l x w) := by
  go_enter Try.func88, Try.ntmps88
  go_wp2
  go_loop [8] (fun i => ∃ k : Nat, k ≤ l.length ∧ i = .int .i64 k ∧ ∀ j (h : j < l.length), j < k → l[j] ≠ x) (fun i => l.length - (intOf i).toNat)
  case atStart => exact ⟨0, Nat.zero_le _, rfl, fun j _ h => absurd h (by omega)⟩
  case round =>
    obtain ⟨k, hk, rfl, hall⟩ := hrel
    have HA := Lib.hid hall
    clear hall
    by_cases hlt : k < l.length
    · obtain ⟨b, off, rfl, _, hc⟩ := h.at hlt
      by_cases he : x = l[k]
      · have HO := Lib.hid (show decide (x ∈ l) = true from decide_eq_true (by rw [he]; exact List.getElem_mem hlt))
        rw [← he] at hc
        clear he
        go_wp2
        go_ret
        exact ⟨k, rfl, by rw [HO.out]; simp, rfl⟩
      · have HN := Lib.hid he
        have he2 : (x == l[k]) = false := beq_eq_false_iff_ne.2 he
        obtain ⟨y, hy⟩ : ∃ y, l[k] = y := ⟨_, rfl⟩
        rw [hy] at hc he2
        have HY := Lib.hid hy
        clear he hy
        go_wp2
        go_round
        case rel => exact ⟨k + 1, by omega, by go_num, fun j hj hjk => by
          by_cases e : j = k
          · subst e; exact fun h => HN.out h.symm
          · exact HA.out j hj (by omega)⟩
        case measure => simp [intOf]; omega
    · have HO := Lib.hid (show decide (x ∈ l) = false from decide_eq_false (fun hm => by
        obtain ⟨j, hj, e⟩ := List.getElem_of_mem hm
        exact HA.out j hj (by omega) e))
      go_wp2
      go_ret
      exact ⟨-1, rfl, by rw [HO.out]; rfl, rfl⟩
theorem hasI_any (l : List Int) (x : Int) (a : Option Addr) (c : Nat) (w : World) (h : InAt w Any l a) (hl : l.length ≤ 1048576) :
    Calls Try.prog 72 #[.slice a l.length c, .int .i64 x] w fun e w' => e = .returned (.bool (decide (x ∈ l))) ∧ w = w' := by
  go_enter Try.func72, Try.ntmps72
  go_wp2_with fail
  refine (idxI_any l x a c _ h hl).mono ?_
  rintro e w1 ⟨r, rfl, hr, rfl⟩
  go_wp2_with fail
  go_ret
  exact ⟨by rw [← hr]; rfl, rfl⟩
/-- What WayChoices hands back, somewhere. -/
theorem HandIOk.out {l : List Int} {b : Bool} {w0 w w' : World} {a : Option Addr} {n c : Nat} (h : HandI l w (.returned (.slice a n c)) w') (hnc : n ≤ c) (hg : Gr w0 w none) : HandIOk l b w0 (.returned (.tuple #[.slice a n c, .bool b])) w' :=
  (h.after' hg).ok b hnc
theorem HandIOk.nil (w w' : World) (hg : Gr w w' none) : HandIOk [] false w (.returned (.tuple #[.slice none 0 0, .bool false])) w' :=
  (HandI.nil w w' hg).ok false (Nat.le_refl _)
set_option maxRecDepth 100000 in
set_option maxHeartbeats 4000000 in
theorem implWayChoices_any (p : Pr) (l : List Int) (at' ab aw : Option Addr) (ct cb cw : Nat) (w : World) (hT : InAt w Any p.types at') (hB : SlAt w Any p.body ab) (hs : p.types.length ≤ 1048576) (hc : p.body.length ≤ 1048576) (hW : InAt w Any l aw) (hlw : l.length ≤ 1048576) (hcw : l.length ≤ cw) :
    Calls Try.prog 40 #[.agg #[.slice at' p.types.length ct, .slice ab p.body.length cb], .slice aw l.length cw] w (HandIOk (wayOf p l).1 (wayOf p l).2 w) := by
  have hg1 : ∀ o, Gr w (w.alloc o) none := fun o => (Gr.refl _ _).alloc _
  go_enter Try.func40, Try.ntmps40
  go_wp2_with fail
  refine (graphOf_any p [] at' ab none ct cb 0 _ (hT.gr0 (hg1 _)) (hB.gr0 (hg1 _)) (by simp [InAt]) hs hc (by simp)).mono ?_
  rintro e w1 ⟨hg, hif⟩
  have hG1 : Gr w w1 none := (hg1 _).trans0 hg
  clear hg
  rw [graphOk_nil] at hif
  cases hv : validP p with
  | false =>
    rw [hv, if_neg (by simp)] at hif
    subst hif
    have HO := Lib.hid (wayOf_out (l := l) hv)
    clear hv
    go_wp2_with fail
    go_ret2
    rw [HO.out]
    exact HandIOk.nil _ _ hG1
  | true =>
    rw [hv, if_pos rfl] at hif
    obtain ⟨gb, rfl, hgb, hGA⟩ := hif
    have HV := Lib.hid hv
    clear hv
    by_cases h0 : l.length = 0
    · have HO := Lib.hid (show wayOf p l = ([], false) by rw [List.eq_nil_of_length_eq_zero h0]; rfl)
      have h0' : ((l.length : Int) == 0) = true := by rw [h0]; rfl
      clear h0
      go_wp2_with fail
      go_ret2
      rw [HO.out]
      exact HandIOk.nil _ _ hG1
    · have h0' : ((l.length : Int) == 0) = false := beq_eq_false_iff_ne.2 (by omega)
      have hpos : 0 < l.length := by omega
      obtain ⟨b0, o0, rfl, -, c0⟩ := (hW.gr0 hG1).at hpos
      have HW := Lib.hid (hW.gr0 hG1)
      clear h0 hW
      simp only [Nat.add_zero] at c0
      by_cases hz : l[0] = 0
      · have HS := Lib.hid (WayAt.start HV.out hpos hz)
        rw [hz] at c0
        obtain ⟨W, hWW⟩ : ∃ W, wayOf p l = W := ⟨_, rfl⟩
        rw [hWW] at HS
        have HWW := Lib.hid hWW
        have hw1 : IntKind.i64.wrap ((l.length : Int) - 1) = ((l.length - 1 : Nat) : Int) := by rw [IntWalk.i64_in _ (by omega)]; omega
        obtain ⟨L, a3, n3, a4, n4, al, cl, hLp, d0, d1, d2, hr1, hr2, hP⟩ := hGA
        rw [← ptsOf_pts HV.out] at hLp
        have HL := Lib.hid hLp
        have HOK := Lib.hid (ptsOf_ok p)
        have hml : L.length ≤ 61 := by rw [hLp]; exact ptsOf_le p
        have HP := Lib.hid hP
        rw [← hLp] at HS
        clear hz hWW hLp d0 d1 hr1 hr2 hP
        have hL0 : Lst w1 w1.heap.size w1.heap.size [] none 0 0 := Lst.nil _ (Nat.le_refl _)
        go_wp2_with fail
        go_loopw [8, 37] (fun v s wr => ∃ (i k n cap : Nat) (ao : Option Addr) (A : List Int), i + 1 ≤ l.length ∧ s = .int .i64 i ∧ v = .slice ao n cap ∧ Lst wr w1.heap.size w1.heap.size A ao n cap ∧ WayAt L W l i k A ∧ Gr w1 wr none) (fun _ s _ => l.length - (intOf s).toNat)
        case atStart => exact ⟨0, 0, 0, 0, none, [], by omega, rfl, rfl, hL0, HS.out, Gr.refl _ _⟩
        case round =>
          obtain ⟨i, k, n, cap, ao, A, hi, rfl, rfl, hLst, hA, hgr⟩ := hrel
          have hkL : k < L.length := hA.1
          have hgk : l[i]? = some (k : Int) := hA.2.1
          have hAl : n ≤ 1048576 := by have := hA.2.2.1; have := hLst.1; omega
          have HA := Lib.hid hA
          have HLst := Lib.hid hLst
          clear hL0 hLst hA
          by_cases hlt : i + 1 < l.length
          · have hil : i < l.length := by omega
            obtain ⟨b1, o1, e1, -, c1⟩ := (HW.out.gr0 hgr).at hil
            cases e1
            obtain ⟨b2, o2, e2, -, c2⟩ := (HW.out.gr0 hgr).at hlt
            cases e2
            rw [List.getElem?_eq_getElem hil] at hgk
            have hgk2 : l[i] = (k : Int) := by simpa using hgk
            rw [hgk2] at c1
            obtain ⟨b3, o3, rfl, hpt⟩ := (HP.out.gr hgr) k hkL
            obtain ⟨q, hq⟩ : ∃ q, L[k] = q := ⟨_, rfl⟩
            rw [hq] at hpt
            have hnq : nextOf L k = q.next := by rw [nextOf_get hkL, hq]
            have hnx : q.next.length ≤ 2 := by have := (HOK.out k (by rw [← HL.out]; exact hkL)).1; rw [← HL.out, hnq] at this; exact this
            obtain ⟨an, cn, f0, f1, f2, f3, f4, fI, hcn⟩ := hpt
            have e2 := hgr.cell d2 (by simp)
            obtain ⟨t, ht⟩ : ∃ t, l[i + 1] = t := ⟨_, rfl⟩
            rw [ht] at c2
            have HNO := Lib.hid (fun h => HA.out.no hlt h)
            have HST := Lib.hid (fun h => HA.out.step (by rw [HL.out]; exact HOK.out) hlt h)
            rw [ht, hnq] at HNO HST
            have HCH := Lib.hid (show chOf L k t = if q.next.length = 2 then [if (q.next.getD 0 0 : Int) = t then 0 else 1] else [] by unfold chOf; rw [hnq])
            have hlz : (zs q.next).length ≤ 2 := by rw [zs_length]; omega
            have HQ2 := Lib.hid (fun (h : q.next.length = 2) => next_two h)
            rw [← zs_length] at f4
            have HFI := Lib.hid fI
            have HZL := Lib.hid (zs_length q.next)
            obtain ⟨N, hN⟩ : ∃ N, zs q.next = N := ⟨_, rfl⟩
            rw [hN] at f4 hlz HFI HNO HST HZL
            have HN := Lib.hid hN
            have hw2 : IntKind.i64.wrap ((i : Int) + 1) = ((i + 1 : Nat) : Int) := by rw [IntWalk.i64_in _ (by omega)]; omega
            obtain ⟨wX, hwX⟩ : ∃ wX : World, wX = wr.alloc (.cells #[.int .i64 q.op, .int .i64 q.x, .int .i64 q.y, .int .i64 q.n, .slice an N.length cn] 44) := ⟨_, rfl⟩
            have hgX : Gr wr wX none := by rw [hwX]; exact (Gr.refl _ _).alloc _
            have x0 : wX.cell? ⟨wr.heap.size, 0, none⟩ = some (.int .i64 q.op) := by rw [hwX]; exact cell_of_row _ _ _ _ _ _ (heap1_0 _ _)
            have x1 : wX.cell? ⟨wr.heap.size, 1, none⟩ = some (.int .i64 q.x) := by rw [hwX]; exact cell_of_row _ _ _ _ _ _ (heap1_0 _ _)
            have x2 : wX.cell? ⟨wr.heap.size, 2, none⟩ = some (.int .i64 q.y) := by rw [hwX]; exact cell_of_row _ _ _ _ _ _ (heap1_0 _ _)
            have x3 : wX.cell? ⟨wr.heap.size, 3, none⟩ = some (.int .i64 q.n) := by rw [hwX]; exact cell_of_row _ _ _ _ _ _ (heap1_0 _ _)
            have x4 : wX.cell? ⟨wr.heap.size, 4, none⟩ = some (.slice an N.length cn) := by rw [hwX]; exact cell_of_row _ _ _ _ _ _ (heap1_0 _ _)
            have cX := hgX.cell c2 (by simp)
            have hidx : (0 : Int) ≤ (i : Int) + 1 ∧ (i : Int) + 1 < (l.length : Int) := by omega
            clear hgk hgk2 hq hnq ht fI hN hnx hcn
            go_upto_region 9 with fail
            rw [← hwX]
            clear hwX f0 f1 f2 f3 f4 c1 c2 e2
            have HIX := Lib.hid (HFI.out.gr0 hgX)
            have HGX := Lib.hid (hgr.trans0 hgX)
            have HGRX := Lib.hid hgX
            clear hgX hgr
            cases hin : decide (t ∈ N) with
            | false =>
              have HO := Lib.hid (HNO.out (by simpa using hin))
              have HIN := Lib.hid hin
              clear hin
              go_region_with (go_at_call 72; refine (hasI_any N t _ _ _ (HIX.out.gr0 (Gr.refl _ none).drew) (by omega)).mono ?_; rw [HIN.out]; rintro e w5 ⟨rfl, rfl⟩)
              all_goals
                go_wp2_with fail
                go_ret2
                rw [HWW.out, HO.out]
                exact HandIOk.nil _ _ ((hG1.trans0 HGX.out).drew)
            | true =>
              have HS2 := Lib.hid (HST.out (by simpa using hin))
              have HIN := Lib.hid hin
              clear hin
              go_upto_region 9 with fail
              refine wp_region_held_drew (S := fun w' => Gr wX w' none) (by kernel_rfl) ((Gr.refl _ _).drew) (fun hHeld => ?_)
              refine wpAnyH_take (i := 0) (v := ?_) rfl (by kernel_rfl) (by kernel_rfl) (by kernel_rfl) (fun _ _ _ h => h) (Or.inl ⟨by rfl, ?_⟩) hHeld ?_
              rotate_left
              focus (intro wq hq; clear hq; go_simp; try with_reducible rfl)
              simp only [Act.put, List.getElem_toArray, List.getElem_cons_zero, List.setIfInBounds_toArray, List.set_cons_zero, List.set_cons_succ]
              refine wpAnyH_take (i := 1) (v := ?_) rfl (by kernel_rfl) (by kernel_rfl) (by kernel_rfl) (fun _ _ _ h => h) (Or.inl ⟨by rfl, ?_⟩) hHeld ?_
              rotate_left
              focus (intro wq hq; have k0 := hq.cell x4 (by simp); go_simp; try with_reducible rfl)
              simp only [Act.put, List.getElem_toArray, List.getElem_cons_succ, List.getElem_cons_zero, List.setIfInBounds_toArray, List.set_cons_zero, List.set_cons_succ]
              refine wpAnyH_take (i := 2) (v := ?_) rfl (by kernel_rfl) (by kernel_rfl) (by kernel_rfl) (fun _ _ _ h => h) (Or.inl ⟨by rfl, ?_⟩) hHeld ?_
              rotate_left
              focus (intro wq hq; clear hq; go_simp; try with_reducible rfl)
              simp only [Act.put, List.getElem_toArray, List.getElem_cons_succ, List.getElem_cons_zero, List.setIfInBounds_toArray, List.set_cons_zero, List.set_cons_succ]
              refine wpAnyH_take (i := 3) (v := ?_) rfl (by kernel_rfl) (by kernel_rfl) (by kernel_rfl) (fun _ _ _ h => h) (Or.inl ⟨by rfl, ?_⟩) hHeld ?_
              rotate_left
              focus (intro wq hq; clear hq; go_simp; try with_reducible rfl)
              simp only [Act.put, List.getElem_toArray, List.getElem_cons_succ, List.getElem_cons_zero, List.setIfInBounds_toArray, List.set_cons_zero, List.set_cons_succ]
              refine wpAnyH_take (i := 4) (v := ?_) rfl (by kernel_rfl) (by kernel_rfl) (by kernel_rfl) (fun _ _ _ h => h) (Or.inl ⟨by rfl, ?_⟩) hHeld ?_
              rotate_left
              focus (intro wq hq; clear hq; go_simp; try with_reducible rfl)
              simp only [Act.put, List.getElem_toArray, List.getElem_cons_succ, List.getElem_cons_zero, List.setIfInBounds_toArray, List.set_cons_zero, List.set_cons_succ]
              refine wpAnyH_take (i := 5) (v := ?_) rfl (by kernel_rfl) (by kernel_rfl) (by kernel_rfl) (fun _ _ _ h => h) (Or.inl ⟨by rfl, ?_⟩) hHeld ?_
              rotate_left
              focus (intro wq hq; clear hq; go_simp; try with_reducible rfl)
              simp only [Act.put, List.getElem_toArray, List.getElem_cons_succ, List.getElem_cons_zero, List.setIfInBounds_toArray, List.set_cons_zero, List.set_cons_succ]
              refine wpAnyH_take (i := 6) (v := ?_) rfl (by kernel_rfl) (by kernel_rfl) (by kernel_rfl) (fun _ _ _ h => h) (Or.inl ⟨by rfl, ?_⟩) hHeld ?_
              rotate_left
              focus (intro wq hq; have k0 := hq.cell cX (by simp); go_simp; try with_reducible rfl)
              simp only [Act.put, List.getElem_toArray, List.getElem_cons_succ, List.getElem_cons_zero, List.setIfInBounds_toArray, List.set_cons_zero, List.set_cons_succ]
              refine wpAnyH_ready (rs := [7]) (by kernel_rfl) (by simp) ?_
              refine AllReadyH.cons rfl (fun K hK => ?_) AllReadyH.nil
              go_simp
              refine (hasI_any N t _ _ _ (HIX.out.gr0 hHeld) (by omega)).mono ?_
              rw [HIN.out]
              rintro e w5 ⟨rfl, rfl⟩
              try dsimp only
              refine hK.out _ _ (hHeld) (fun hHeld => ?_)
              clear hK K
              try simp only [Act.put, List.getElem_toArray, List.getElem_cons_succ, List.getElem_cons_zero, List.setIfInBounds_toArray, List.set_cons_zero, List.set_cons_succ]
              refine wpAnyH_take (i := 8) (v := ?_) rfl (by kernel_rfl) (by kernel_rfl) (by kernel_rfl) (fun _ _ _ h => h) (Or.inl ⟨by rfl, ?_⟩) hHeld ?_
              rotate_left
              focus (intro wq hq; clear hq; go_simp; try with_reducible rfl)
              simp only [Act.put, List.getElem_toArray, List.getElem_cons_succ, List.getElem_cons_zero, List.setIfInBounds_toArray, List.set_cons_zero, List.set_cons_succ]
              refine wpAnyH_done (by kernel_rfl) ?_ _
              have HH5 := Lib.hid hHeld
              clear hHeld
              go_wp2_with fail
              refine (isChoice_any q.op q.x q.y q.n an N.length cn _).mono ?_
              rintro e w6 ⟨rfl, hg6⟩
              have HG6 := Lib.hid (HH5.out.trans0 hg6)
              clear hg6
              by_cases h2 : N.length = 2
              · have h2' : ((N.length : Int) == 2) = true := by rw [h2]; rfl
                obtain ⟨ka, kb, hab⟩ := HQ2.out (by rw [← HZL.out]; exact h2)
                have HCH2 := Lib.hid (show chOf L k t = [if (ka : Int) = t then 0 else 1] by rw [HCH.out, hab]; simp)
                have hNab : N = [(ka : Int), (kb : Int)] := by rw [← HN.out, hab]; rfl
                obtain ⟨b9, o9, rfl, -, c9⟩ := (HIX.out.gr0 HG6.out).at (i := 0) (by omega)
                have hn0 : N[0]'(by omega) = (ka : Int) := by simp [hNab]
                rw [hn0] at c9
                simp only [Nat.add_zero] at c9
                have y4 := HG6.out.cell x4 (by simp)
                have yX := HG6.out.cell cX (by simp)
                have hpN : (0 : Int) < (N.length : Int) := by omega
                have hpN2 : 0 < N.length := by omega
                have hpN3 : N ≠ [] := List.length_pos_iff.1 hpN2
                clear hab hNab hn0 h2
                by_cases hta : t = (ka : Int)
                · have hta' : (t == (ka : Int)) = true := beq_iff_eq.2 hta
                  have HCH3 := Lib.hid (show chOf L k t = [0] by rw [HCH2.out, if_pos hta.symm])
                  clear hta
                  go_upto_region 13 with fail
                  refine wp_region_held_drew (S := fun w' => Gr w6 w' none) (by kernel_rfl) ((Gr.refl _ _).drew) (fun hHeld => ?_)
                  refine wpAnyH_take (i := 0) (v := ?_) rfl (by kernel_rfl) (by kernel_rfl) (by kernel_rfl) (fun _ _ _ h => h) (Or.inl ⟨by rfl, ?_⟩) hHeld ?_
                  rotate_left
                  focus (intro wq hq; clear hq; go_simp; try with_reducible rfl)
                  simp only [Act.put, List.getElem_toArray, List.getElem_cons_zero, List.setIfInBounds_toArray, List.set_cons_zero, List.set_cons_succ]
                  refine wpAnyH_take (i := 1) (v := ?_) rfl (by kernel_rfl) (by kernel_rfl) (by kernel_rfl) (fun _ _ _ h => h) (Or.inl ⟨by rfl, ?_⟩) hHeld ?_
                  rotate_left
                  focus (intro wq hq; clear hq; go_simp; try with_reducible rfl)
                  simp only [Act.put, List.getElem_toArray, List.getElem_cons_succ, List.getElem_cons_zero, List.setIfInBounds_toArray, List.set_cons_zero, List.set_cons_succ]
                  refine wpAnyH_take (i := 2) (v := ?_) rfl (by kernel_rfl) (by kernel_rfl) (by kernel_rfl) (fun _ _ _ h => h) (Or.inl ⟨by rfl, ?_⟩) hHeld ?_
                  rotate_left
                  focus (intro wq hq; clear hq; go_simp; try with_reducible rfl)
                  simp only [Act.put, List.getElem_toArray, List.getElem_cons_succ, List.getElem_cons_zero, List.setIfInBounds_toArray, List.set_cons_zero, List.set_cons_succ]
                  refine wpAnyH_take (i := 3) (v := ?_) rfl (by kernel_rfl) (by kernel_rfl) (by kernel_rfl) (fun _ _ _ h => h) (Or.inl ⟨by rfl, ?_⟩) hHeld ?_
                  rotate_left
                  focus (intro wq hq; clear hq; go_simp; try with_reducible rfl)
                  simp only [Act.put, List.getElem_toArray, List.getElem_cons_succ, List.getElem_cons_zero, List.setIfInBounds_toArray, List.set_cons_zero, List.set_cons_succ]
                  refine wpAnyH_take (i := 4) (v := ?_) rfl (by kernel_rfl) (by kernel_rfl) (by kernel_rfl) (fun _ _ _ h => h) (Or.inl ⟨by rfl, ?_⟩) hHeld ?_
                  rotate_left
                  focus (intro wq hq; have k0 := hq.cell yX (by simp); go_simp; try with_reducible rfl)
                  simp only [Act.put, List.getElem_toArray, List.getElem_cons_succ, List.getElem_cons_zero, List.setIfInBounds_toArray, List.set_cons_zero, List.set_cons_succ]
                  refine wpAnyH_take (i := 5) (v := ?_) rfl (by kernel_rfl) (by kernel_rfl) (by kernel_rfl) (fun _ _ _ h => h) (Or.inl ⟨by rfl, ?_⟩) hHeld ?_
                  rotate_left
                  focus (intro wq hq; clear hq; go_simp; try with_reducible rfl)
                  simp only [Act.put, List.getElem_toArray, List.getElem_cons_succ, List.getElem_cons_zero, List.setIfInBounds_toArray, List.set_cons_zero, List.set_cons_succ]
                  refine wpAnyH_take (i := 6) (v := ?_) rfl (by kernel_rfl) (by kernel_rfl) (by kernel_rfl) (fun _ _ _ h => h) (Or.inl ⟨by rfl, ?_⟩) hHeld ?_
                  rotate_left
                  focus (intro wq hq; have k0 := hq.cell y4 (by simp); go_simp; try with_reducible rfl)
                  simp only [Act.put, List.getElem_toArray, List.getElem_cons_succ, List.getElem_cons_zero, List.setIfInBounds_toArray, List.set_cons_zero, List.set_cons_succ]
                  refine wpAnyH_take (i := 7) (v := ?_) rfl (by kernel_rfl) (by kernel_rfl) (by kernel_rfl) (fun _ _ _ h => h) (Or.inl ⟨by rfl, ?_⟩) hHeld ?_
                  rotate_left
                  focus (intro wq hq; clear hq; go_simp; try with_reducible rfl)
                  simp only [Act.put, List.getElem_toArray, List.getElem_cons_succ, List.getElem_cons_zero, List.setIfInBounds_toArray, List.set_cons_zero, List.set_cons_succ]
                  refine wpAnyH_take (i := 8) (v := ?_) rfl (by kernel_rfl) (by kernel_rfl) (by kernel_rfl) (fun _ _ _ h => h) (Or.inl ⟨by rfl, ?_⟩) hHeld ?_
                  rotate_left
                  focus (intro wq hq; have k0 := hq.cell c9 (by simp); go_simp; try with_reducible rfl)
                  simp only [Act.put, List.getElem_toArray, List.getElem_cons_succ, List.getElem_cons_zero, List.setIfInBounds_toArray, List.set_cons_zero, List.set_cons_succ]
                  refine wpAnyH_take (i := 9) (v := ?_) rfl (by kernel_rfl) (by kernel_rfl) (by kernel_rfl) (fun _ _ _ h => h) (Or.inl ⟨by rfl, ?_⟩) hHeld ?_
                  rotate_left
                  focus (intro wq hq; clear hq; go_simp; try with_reducible rfl)
                  simp only [Act.put, List.getElem_toArray, List.getElem_cons_succ, List.getElem_cons_zero, List.setIfInBounds_toArray, List.set_cons_zero, List.set_cons_succ]
                  refine wpAnyH_done (by kernel_rfl) ?_ _
                  have HH := Lib.hid (HG6.out.trans0 hHeld)
                  have HGw := Lib.hid (HGX.out.trans0 HH.out)
                  clear hHeld
                  generalize w6.drew = wD at *
                  go_wp2_with (at_builtin; refine app_l wD _ rfl (.tmp 70) (.tmp 72) rfl w1.heap.size w1.heap.size ao cap n _ 0 rfl (HLst.out.gr (HGRX.out.trans0 HH.out)) ((Gr.refl _ _).alloc _) wD.heap.size 1 rfl (cell_of_row _ _ _ _ _ _ (heap1_0 _ _)) (by omega) HGw.out.size ?_; rintro g cap2 w9 hL9 hg9)
                  obtain ⟨j, hj, hA2⟩ := HS2.out
                  rw [HCH3.out] at hA2
                  go_roundw
                  case rel => exact ⟨i + 1, j, n + 1, cap2, some ⟨g, 0, none⟩, _, by omega, by go_num, rfl, hL9, hA2, hg9 _ (HGw.out.alloc _) (Nat.le_refl _)⟩
                  case measure => simp [intOf]; omega
                · have hta' : (t == (ka : Int)) = false := beq_eq_false_iff_ne.2 hta
                  have HCH3 := Lib.hid (show chOf L k t = [1] by rw [HCH2.out, if_neg (fun h => hta h.symm)])
                  clear hta
                  go_upto_region 13 with fail
                  refine wp_region_held_drew (S := fun w' => Gr w6 w' none) (by kernel_rfl) ((Gr.refl _ _).drew) (fun hHeld => ?_)
                  refine wpAnyH_take (i := 0) (v := ?_) rfl (by kernel_rfl) (by kernel_rfl) (by kernel_rfl) (fun _ _ _ h => h) (Or.inl ⟨by rfl, ?_⟩) hHeld ?_
                  rotate_left
                  focus (intro wq hq; clear hq; go_simp; try with_reducible rfl)
                  simp only [Act.put, List.getElem_toArray, List.getElem_cons_zero, List.setIfInBounds_toArray, List.set_cons_zero, List.set_cons_succ]
                  refine wpAnyH_take (i := 1) (v := ?_) rfl (by kernel_rfl) (by kernel_rfl) (by kernel_rfl) (fun _ _ _ h => h) (Or.inl ⟨by rfl, ?_⟩) hHeld ?_
                  rotate_left
                  focus (intro wq hq; clear hq; go_simp; try with_reducible rfl)
                  simp only [Act.put, List.getElem_toArray, List.getElem_cons_succ, List.getElem_cons_zero, List.setIfInBounds_toArray, List.set_cons_zero, List.set_cons_succ]
                  refine wpAnyH_take (i := 2) (v := ?_) rfl (by kernel_rfl) (by kernel_rfl) (by kernel_rfl) (fun _ _ _ h => h) (Or.inl ⟨by rfl, ?_⟩) hHeld ?_
                  rotate_left
                  focus (intro wq hq; clear hq; go_simp; try with_reducible rfl)
                  simp only [Act.put, List.getElem_toArray, List.getElem_cons_succ, List.getElem_cons_zero, List.setIfInBounds_toArray, List.set_cons_zero, List.set_cons_succ]
                  refine wpAnyH_take (i := 3) (v := ?_) rfl (by kernel_rfl) (by kernel_rfl) (by kernel_rfl) (fun _ _ _ h => h) (Or.inl ⟨by rfl, ?_⟩) hHeld ?_
                  rotate_left
                  focus (intro wq hq; clear hq; go_simp; try with_reducible rfl)
                  simp only [Act.put, List.getElem_toArray, List.getElem_cons_succ, List.getElem_cons_zero, List.setIfInBounds_toArray, List.set_cons_zero, List.set_cons_succ]
                  refine wpAnyH_take (i := 4) (v := ?_) rfl (by kernel_rfl) (by kernel_rfl) (by kernel_rfl) (fun _ _ _ h => h) (Or.inl ⟨by rfl, ?_⟩) hHeld ?_
                  rotate_left
                  focus (intro wq hq; have k0 := hq.cell yX (by simp); go_simp; try with_reducible rfl)
                  simp only [Act.put, List.getElem_toArray, List.getElem_cons_succ, List.getElem_cons_zero, List.setIfInBounds_toArray, List.set_cons_zero, List.set_cons_succ]
                  refine wpAnyH_take (i := 5) (v := ?_) rfl (by kernel_rfl) (by kernel_rfl) (by kernel_rfl) (fun _ _ _ h => h) (Or.inl ⟨by rfl, ?_⟩) hHeld ?_
                  rotate_left
                  focus (intro wq hq; clear hq; go_simp; try with_reducible rfl)
                  simp only [Act.put, List.getElem_toArray, List.getElem_cons_succ, List.getElem_cons_zero, List.setIfInBounds_toArray, List.set_cons_zero, List.set_cons_succ]
                  refine wpAnyH_take (i := 6) (v := ?_) rfl (by kernel_rfl) (by kernel_rfl) (by kernel_rfl) (fun _ _ _ h => h) (Or.inl ⟨by rfl, ?_⟩) hHeld ?_
                  rotate_left
                  focus (intro wq hq; have k0 := hq.cell y4 (by simp); go_simp; try with_reducible rfl)
                  simp only [Act.put, List.getElem_toArray, List.getElem_cons_succ, List.getElem_cons_zero, List.setIfInBounds_toArray, List.set_cons_zero, List.set_cons_succ]
                  refine wpAnyH_take (i := 7) (v := ?_) rfl (by kernel_rfl) (by kernel_rfl) (by kernel_rfl) (fun _ _ _ h => h) (Or.inl ⟨by rfl, ?_⟩) hHeld ?_
                  rotate_left
                  focus (intro wq hq; clear hq; go_simp; try with_reducible rfl)
                  simp only [Act.put, List.getElem_toArray, List.getElem_cons_succ, List.getElem_cons_zero, List.setIfInBounds_toArray, List.set_cons_zero, List.set_cons_succ]
                  refine wpAnyH_take (i := 8) (v := ?_) rfl (by kernel_rfl) (by kernel_rfl) (by kernel_rfl) (fun _ _ _ h => h) (Or.inl ⟨by rfl, ?_⟩) hHeld ?_
                  rotate_left
                  focus (intro wq hq; have k0 := hq.cell c9 (by simp); go_simp; try with_reducible rfl)
                  simp only [Act.put, List.getElem_toArray, List.getElem_cons_succ, List.getElem_cons_zero, List.setIfInBounds_toArray, List.set_cons_zero, List.set_cons_succ]
                  refine wpAnyH_take (i := 9) (v := ?_) rfl (by kernel_rfl) (by kernel_rfl) (by kernel_rfl) (fun _ _ _ h => h) (Or.inl ⟨by rfl, ?_⟩) hHeld ?_
                  rotate_left
                  focus (intro wq hq; clear hq; go_simp; try with_reducible rfl)
                  simp only [Act.put, List.getElem_toArray, List.getElem_cons_succ, List.getElem_cons_zero, List.setIfInBounds_toArray, List.set_cons_zero, List.set_cons_succ]
                  refine wpAnyH_done (by kernel_rfl) ?_ _
                  have HH := Lib.hid (HG6.out.trans0 hHeld)
                  have HGw := Lib.hid (HGX.out.trans0 HH.out)
                  clear hHeld
                  generalize w6.drew = wD at *
                  go_wp2_with (at_builtin; refine app_l wD _ rfl (.tmp 70) (.tmp 72) rfl w1.heap.size w1.heap.size ao cap n _ 1 rfl (HLst.out.gr (HGRX.out.trans0 HH.out)) ((Gr.refl _ _).alloc _) wD.heap.size 1 rfl (cell_of_row _ _ _ _ _ _ (heap1_0 _ _)) (by omega) HGw.out.size ?_; rintro g cap2 w9 hL9 hg9)
                  obtain ⟨j, hj, hA2⟩ := HS2.out
                  rw [HCH3.out] at hA2
                  go_roundw
                  case rel => exact ⟨i + 1, j, n + 1, cap2, some ⟨g, 0, none⟩, _, by omega, by go_num, rfl, hL9, hA2, hg9 _ (HGw.out.alloc _) (Nat.le_refl _)⟩
                  case measure => simp [intOf]; omega
              · have h2' : ((N.length : Int) == 2) = false := beq_eq_false_iff_ne.2 (by omega)
                have HCH3 := Lib.hid (show chOf L k t = [] by rw [HCH.out, if_neg (by rw [← HZL.out]; exact h2)])
                clear h2
                go_wp2_with fail
                obtain ⟨j, hj, hA2⟩ := HS2.out
                rw [HCH3.out, List.append_nil] at hA2
                go_roundw
                case rel => exact ⟨i + 1, j, n, cap, ao, A, by omega, by go_num, rfl, HLst.out.gr (HGRX.out.trans0 HG6.out), hA2, HGX.out.trans0 HG6.out⟩
                case measure => simp [intOf]; omega
          · have hil : l.length = i + 1 := by omega
            have HLA := Lib.hid (HA.out.last hil.symm)
            clear hgk
            go_wp2_with fail
            go_ret2
            rw [HWW.out, HLA.out]
            exact HandIOk.out (HLst.out.hand rfl hgr) HLst.out.cap hG1
      · have HO := Lib.hid (wayOf_bad (p := p) hpos hz)
        have hz' : (l[0] != 0) = true := by simpa using hz
        obtain ⟨y, hy⟩ : ∃ y, l[0] = y := ⟨_, rfl⟩
        rw [hy] at c0 hz'
        clear hz hy
        go_wp2_with fail
        go_ret2
        rw [HO.out]
        exact HandIOk.nil _ _ hG1
end Go.Proofs.Ytadidppbhpdnkaa
