/- DominatorsOf, of the program and of the reference: both hand back the same list. -/
import Derived.Test.YtadidppbhpdnkaaR6

import Derived.Test.YtadidppbhpdnkaaM3

namespace Go.Proofs.Ytadidppbhpdnkaa

open Go.RowKit

/-- What DominatorsOf says. -/
noncomputable def domsOf (p : Pr) (b : Int) : List Int := if hasTwo p b b = true then coll (fun a => domL (ptsOf p) a b.toNat) (ptsOf p).length else []
theorem domsOf_len (p : Pr) (b : Int) : (domsOf p b).length ≤ 1048576 := by
  unfold domsOf
  split
  · have := coll_le (fun a => domL (ptsOf p) a b.toNat) (ptsOf p).length
    have := ptsOf_le p
    omega
  · simp
theorem domsOf_in {p : Pr} {k : Nat} (h : hasTwo p k k = true) : domsOf p k = coll (fun a => domL (ptsOf p) a k) (ptsOf p).length := by simp [domsOf, h]
theorem domsOf_out {p : Pr} {b : Int} (h : hasTwo p b b = false) : domsOf p b = [] := by simp [domsOf, h]

set_option maxRecDepth 100000 in
set_option maxHeartbeats 1000000 in
theorem specDominatorsOf_any (p : Pr) (b : Int) (at' ab : Option Addr) (ct cb : Nat) (w : World) (hT : InAt w Any p.types at') (hB : SlAt w Any p.body ab) (hs : p.types.length ≤ 1048576) (hc : St.count p.body ≤ 1048576) :
    Calls Try.prog 25 #[.agg #[.slice at' p.types.length ct, .slice ab p.body.length cb], .int .i64 b] w (HandI (domsOf p b) w) := by
  have hlc := count_length p.body
  have hg1 : ∀ o o', Gr w ((w.alloc o).alloc o') none := fun o o' => ((Gr.refl _ _).alloc _).alloc _
  go_enter Try.func25, Try.ntmps25
  go_wp2_with fail
  refine (l12Has_any p b b at' ab ct cb _ (hT.gr0 (hg1 _ _)) (hB.gr0 (hg1 _ _)) hs hc).mono ?_
  rintro e w1 ⟨rfl, hg⟩
  have hG1 : Gr w w1 none := (hg1 _ _).trans0 hg
  have q0 : w1.cell? ⟨w.heap.size, 0, none⟩ = some (.slice at' p.types.length ct) := hg.cell (p := ⟨w.heap.size, 0, none⟩) (cell_of_row _ _ _ _ _ _ (heap2_0 _ _ _)) (by simp)
  have q1 : w1.cell? ⟨w.heap.size, 1, none⟩ = some (.slice ab p.body.length cb) := hg.cell (p := ⟨w.heap.size, 1, none⟩) (cell_of_row _ _ _ _ _ _ (heap2_0 _ _ _)) (by simp)
  have hE : w1.heap[w.heap.size + 1]? = some (.cells #[] 3 (0, 0)) := (hg.block _ (by simp) (by simp)).trans (heap2_1 _ _ _)
  have HE := Lib.hid hE
  clear hg hE
  cases h2 : hasTwo p b b with
  | false =>
    have HO := Lib.hid (domsOf_out h2)
    clear h2
    go_wp2_with fail
    go_ret
    rw [HO.out]
    exact HandI.own (l := []) rfl (own_empty (by omega) HE.out) hG1
  | true =>
    obtain ⟨j, k, rfl, hjk, hj, hk, hv, hpp⟩ := hasTwo_in h2
    have hjk' : j = k := by omega
    subst hjk'
    have hcnt := valid_count hv
    have HO := Lib.hid (domsOf_in h2)
    have hml := ptsOf_le p
    have HN := Lib.hid (show NextOk (ptsOf p) by rw [hpp]; exact pts_next p)
    have HPP := Lib.hid hpp
    clear h2 hv hpp hjk
    go_wp2_with fail
    refine (l2Points_any p at' ab ct cb _ (hB.gr0 hG1) (by omega) (by unfold maxLen; omega)).mono ?_
    rintro e w2 ⟨M, am, c, hM, rfl, hown, hg2⟩
    have hMp : M = ptsOf p := hM.trans HPP.out.symm
    clear hM
    subst hMp
    have hG2 : Gr w w2 none := hG1.trans0 hg2
    have hC0 : Coll w2 w.heap.size w2.heap.size (fun a => domL (ptsOf p) a j) 0 (some ⟨w.heap.size + 1, 0, none⟩) 0 0 := (Coll.empty hG2.size _ (by omega) HE.out).gr hg2
    have hR := hown.read
    have HR := Lib.hid hR
    clear q0 q1 hown hg2 hR
    go_wp2_with fail
    go_loopw [5, 7] (fun v i wr => ∃ (k n cap : Nat) (ao : Option Addr), k ≤ (ptsOf p).length ∧ i = .int .i64 k ∧ v = .slice ao n cap ∧ Coll wr w.heap.size w2.heap.size (fun a => domL (ptsOf p) a j) k ao n cap ∧ Gr w2 wr none) (fun _ i _ => (ptsOf p).length - (intOf i).toNat)
    case atStart => exact ⟨0, 0, 0, _, Nat.zero_le _, rfl, rfl, hC0, Gr.refl _ _⟩
    case round =>
      obtain ⟨k, n, cap, ao, hkl, rfl, rfl, hC, hgr⟩ := hrel
      have hnk := hC.le
      have HC := Lib.hid hC
      clear hC hC0
      by_cases hlt : k < (ptsOf p).length
      · cases hd : domL (ptsOf p) k j with
        | true =>
          have HD := Lib.hid hd
          clear hd
          go_wp2_with fail
          refine (l12Dominates_any (ptsOf p) am c k j _ (HR.out.gr hgr) HN.out (by omega) hk).mono ?_
          rw [HD.out]
          rintro e w3 ⟨rfl, hg3⟩
          go_wp2_with (at_builtin; refine app_c w3 _ rfl (.tmp 27) (.tmp 29) rfl w.heap.size w2.heap.size ao cap n _ k rfl (HC.out.gr hg3) ((Gr.refl _ _).alloc _) HD.out w3.heap.size 1 rfl (cell_of_row _ _ _ _ _ _ (heap1_0 _ _)) (by omega) (hgr.trans0 hg3).size ?_; rintro g cap' w4 hC4 hg4)
          go_roundw
          case rel => exact ⟨k + 1, n + 1, cap', _, by omega, by go_num, rfl, hC4, hg4 _ ((hgr.trans0 hg3).alloc _) (Nat.le_refl _)⟩
          case measure => simp [intOf]; omega
        | false =>
          have HD := Lib.hid hd
          clear hd
          go_wp2_with fail
          refine (l12Dominates_any (ptsOf p) am c k j _ (HR.out.gr hgr) HN.out (by omega) hk).mono ?_
          rw [HD.out]
          rintro e w3 ⟨rfl, hg3⟩
          go_wp2_with fail
          go_roundw
          case rel => exact ⟨k + 1, n, cap, ao, by omega, by go_num, rfl, (HC.out.gr hg3).no HD.out, hgr.trans0 hg3⟩
          case measure => simp [intOf]; omega
      · obtain rfl : k = (ptsOf p).length := by omega
        go_wp2_with fail
        go_ret
        exact HC.out.hand HO.out (hG2.trans0 hgr)

/-- One point, as graphOf takes it. -/
theorem graphOk_one (p : Pr) (b : Int) : graphOk p [b] = hasTwo p b b := by
  unfold graphOk hasTwo ptsOf
  cases h : validP p with
  | true => rw [Bool.eq_iff_iff]; simp [within]; omega
  | false => rw [Bool.eq_iff_iff]; simp
theorem inAt_one (w : World) (A : Obj) (a : Int) : InAt ((w.alloc A).alloc (.cells #[.int .i64 a] 3)) Any [a] (some ⟨w.heap.size + 1, 0, none⟩) := by
  refine InAt.of fun j hj => ⟨trivial, ?_⟩
  rw [cell_of_row _ _ _ _ _ _ (heap2_1 _ _ _)]
  have : j = 0 := by simp at hj; omega
  subst this; rfl
set_option maxRecDepth 100000 in
set_option maxHeartbeats 1000000 in
theorem implDominatorsOf_any (p : Pr) (b : Int) (at' ab : Option Addr) (ct cb : Nat) (w : World) (hT : InAt w Any p.types at') (hB : SlAt w Any p.body ab) (hs : p.types.length ≤ 1048576) (hc : p.body.length ≤ 1048576) :
    Calls Try.prog 22 #[.agg #[.slice at' p.types.length ct, .slice ab p.body.length cb], .int .i64 b] w (HandI (domsOf p b) w) := by
  have hg1 : ∀ o o', Gr w ((w.alloc o).alloc o') none := fun o o' => ((Gr.refl _ _).alloc _).alloc _
  go_enter Try.func22, Try.ntmps22
  go_wp2_with fail
  refine (graphOf_any p [b] at' ab _ ct cb _ _ (hT.gr0 (hg1 _ _)) (hB.gr0 (hg1 _ _)) (inAt_one _ _ _) hs hc (by simp)).mono ?_
  rintro e w1 ⟨hg, hif⟩
  have hG1 : Gr w w1 none := (hg1 _ _).trans0 hg
  clear hg
  rw [graphOk_one] at hif
  cases h2 : hasTwo p b b with
  | false =>
    rw [h2, if_neg (by simp)] at hif
    subst hif
    have HO := Lib.hid (domsOf_out h2)
    clear h2
    go_wp2_with fail
    go_ret
    rw [HO.out]
    exact HandI.nil _ _ hG1
  | true =>
    rw [h2, if_pos rfl] at hif
    obtain ⟨gb, rfl, hgb, hGA⟩ := hif
    obtain ⟨j, k, rfl, hjk, hj, hk, hv, hpp⟩ := hasTwo_in h2
    have hjk' : j = k := by omega
    subst hjk'
    have hml := ptsOf_le p
    have HO := Lib.hid (show domsOf p j = coll (fun a => domL (pts p) a j) (pts p).length by rw [domsOf_in h2, hpp])
    rw [hpp] at hml hj hk
    clear h2 hv hpp hjk
    have HG := Lib.hid hGA
    obtain ⟨L, a3, n3, a4, n4, al, cl, hL, d0, d1, d2, hr1, hr2, hr3⟩ := hGA
    subst hL
    clear d0 d1 hr1 hr2 hr3
    have hC0 : Coll w1 w.heap.size w1.heap.size (fun a => domL (pts p) a j) 0 none 0 0 := Coll.nil _ hG1.size _
    go_wp2_with fail
    go_loopw [7, 23] (fun v i wr => ∃ (k n cap : Nat) (ao : Option Addr), k ≤ (pts p).length ∧ i = .int .i64 k ∧ v = .slice ao n cap ∧ Coll wr w.heap.size w1.heap.size (fun a => domL (pts p) a j) k ao n cap ∧ Gr w1 wr none) (fun _ i _ => (pts p).length - (intOf i).toNat)
    case atStart => exact ⟨0, 0, 0, _, Nat.zero_le _, rfl, rfl, hC0, Gr.refl _ _⟩
    case round =>
      obtain ⟨k, n, cap, ao, hkl, rfl, rfl, hC, hgr⟩ := hrel
      have hnk := hC.le
      have HC := Lib.hid hC
      clear hC hC0 d2
      by_cases hlt : k < (pts p).length
      · cases hd : domL (pts p) k j with
        | true =>
          have HD := Lib.hid hd
          clear hd
          go_wp2_with fail
          refine (dominates_any p gb k j _ (HG.out.gr hgr) (by omega) hk).mono ?_
          rw [HD.out]
          rintro e w3 ⟨rfl, hg3⟩
          go_wp2_with (at_builtin; refine app_c w3 _ rfl (.tmp 30) (.tmp 32) rfl w.heap.size w1.heap.size ao cap n _ k rfl (HC.out.gr hg3) ((Gr.refl _ _).alloc _) HD.out w3.heap.size 1 rfl (cell_of_row _ _ _ _ _ _ (heap1_0 _ _)) (by omega) (hgr.trans0 hg3).size ?_; rintro g cap' w4 hC4 hg4)
          go_roundw
          case rel => exact ⟨k + 1, n + 1, cap', _, by omega, by go_num, rfl, hC4, hg4 _ ((hgr.trans0 hg3).alloc _) (Nat.le_refl _)⟩
          case measure => simp [intOf]; omega
        | false =>
          have HD := Lib.hid hd
          clear hd
          go_wp2_with fail
          refine (dominates_any p gb k j _ (HG.out.gr hgr) (by omega) hk).mono ?_
          rw [HD.out]
          rintro e w3 ⟨rfl, hg3⟩
          go_wp2_with fail
          go_roundw
          case rel => exact ⟨k + 1, n, cap, ao, by omega, by go_num, rfl, (HC.out.gr hg3).no HD.out, hgr.trans0 hg3⟩
          case measure => simp [intOf]; omega
      · obtain rfl : k = (pts p).length := by omega
        go_wp2_with fail
        go_ret
        exact HC.out.hand HO.out (hG1.trans0 hgr)
end Go.Proofs.Ytadidppbhpdnkaa
