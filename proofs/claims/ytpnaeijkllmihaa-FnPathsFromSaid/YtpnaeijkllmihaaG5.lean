/- The law FnPathsFrom: the walk of the law's own function. -/
import Derived.Test.YtpnaeijkllmihaaG3

namespace Go.Proofs.Ytpnaeijkllmihaa

open Go.RowKit

set_option maxRecDepth 100000 in
set_option maxHeartbeats 4000000 in
theorem fnPathsFrom_walk (a : Option Addr) (n c : Nat) (w : World) (h : BytesIn w a n) (hc : n ≤ c) (hm : n ≤ maxLen) :
    Calls Try.prog 7 #[.slice a n c] w fun e w' => e = .returned (.bool true) ∧ Gr w w' none := by
  unfold maxLen at hm
  by_cases hbig : 1048576 < n
  · go_enter Try.func7, Try.ntmps7
    go_wp2
    go_ret
    exact ⟨rfl, Gr.refl _ _⟩
  · go_enter Try.func7, Try.ntmps7
    go_wp2_with fail
    refine (pathsFrom_any a n c w h hc (by omega)).mono ?_
    rintro e w1 ⟨p, v0, v1, tg, rfl, ⟨at', ab, ct, cb, rfl, rfl, hT, hB, ht, hcn⟩, hk1, hk2, hg1⟩
    have hlb := count_length p.body
    have hQ := PrIn.new (ct := ct) (cb := cb) hT hB
    have hgA := hg1.alloc (.cells #[.slice at' p.types.length ct, .slice ab p.body.length cb] 26)
    clear hT hB hg1 h
    go_wp2_with fail
    obtain ⟨wA, hwA⟩ : ∃ wA : World, wA = w1.alloc (.cells #[.slice at' p.types.length ct, .slice ab p.body.length cb] 26) := ⟨_, rfl⟩
    rw [← hwA] at hQ hgA ⊢
    clear hwA
    have HQ := Lib.hid hQ
    have HG := Lib.hid hgA
    have q0 := hQ.1
    have q1 := hQ.2.1
    clear hQ hgA
    refine (implPathsFrom_any p tg _ _ _ _ _ HQ.out.2.2.1 HQ.out.2.2.2 (by omega) (by omega)).mono ?_
    rintro e w2 ⟨a2, c2, rfl, hI, -, -, hg⟩
    replace HQ := Lib.hid (HQ.out.gr hg)
    replace HG := Lib.hid (HG.out.trans0 hg)
    replace q0 := HQ.out.1
    replace q1 := HQ.out.2.1
    have HL := Lib.hid (hI)
    clear hI hg
    go_wp2_with fail
    refine (implPointsOf_any p  _ _ _ _ _ HQ.out.2.2.1 HQ.out.2.2.2 (by omega) (by omega)).mono ?_
    rintro e w3 ⟨M, a3, c3, hM, rfl, hP, hg⟩
    replace HQ := Lib.hid (HQ.out.gr hg)
    replace HG := Lib.hid (HG.out.trans0 hg)
    replace q0 := HQ.out.1
    replace q1 := HQ.out.2.1
    replace HL := Lib.hid (HL.out.gr0 hg)
    have HP := Lib.hid (hP.read)
    have HM := Lib.hid (hM)
    clear hM hP hg
    go_wp2_with fail
    have hMl : M.length ≤ 61 := by rw [HM.out]; exact ptsOf_le p
    refine (specPathsFrom_any p tg _ _ _ _ _ HQ.out.2.2.1 HQ.out.2.2.2 (by omega) (by omega)).mono ?_
    rintro e w4 ⟨a4, c4, rfl, hI, -, -, hg⟩
    replace HQ := Lib.hid (HQ.out.gr hg)
    replace HG := Lib.hid (HG.out.trans0 hg)
    replace q0 := HQ.out.1
    replace q1 := HQ.out.2.1
    replace HL := Lib.hid (HL.out.gr0 hg)
    replace HP := Lib.hid (HP.out.gr hg)
    have HS := Lib.hid (hI)
    clear hI hg
    go_wp2_with fail
    have hLl : (pathsFrom p tg).length ≤ 1048576 := pathsFrom_len p tg
    refine (bcInts_same (pathsFrom p tg) _ _ _ _ _ HL.out HS.out hLl).mono ?_
    rintro e w5 ⟨rfl, hg⟩
    replace HQ := Lib.hid (HQ.out.gr hg)
    replace HG := Lib.hid (HG.out.trans0 hg)
    replace q0 := HQ.out.1
    replace q1 := HQ.out.2.1
    replace HL := Lib.hid (HL.out.gr0 hg)
    replace HP := Lib.hid (HP.out.gr hg)
    replace HS := Lib.hid (HS.out.gr0 hg)
    clear hg
    by_cases hin : 0 ≤ tg ∧ tg < M.length
    · obtain ⟨t, rfl⟩ : ∃ t : Nat, tg = t := ⟨tg.toNat, by omega⟩
      have ht9 : t < M.length := by omega
      obtain ⟨b1, o1, rfl, hpt⟩ := HP.out t ht9
      obtain ⟨q, hq⟩ : ∃ q, M[t] = q := ⟨_, rfl⟩
      rw [hq] at hpt
      have hqn : nextOf (ptsOf p) t = q.next := next_of (by rw [← HM.out, List.getElem?_eq_getElem ht9, hq])
      have hnl : q.next.length ≤ 2 := by rw [← hqn]; exact (ptsOf_next p t (by rw [← HM.out]; exact ht9)).1
      have KEY := Lib.hid (show ∀ k, k < M.length → (q.next.any fun m => decide (m = k) || decide ((k : Int) ∈ pathsFrom p m)) = decide ((k : Int) ∈ pathsFrom p t) from fun k hk => by rw [← hqn]; exact pathsFrom_law (by rw [← HM.out]; exact ht9) (by rw [← HM.out]; exact hk) (ptsOf_next p))
      obtain ⟨an, cn, -, -, -, -, c4, cI, hcn⟩ := hpt
      have HCI := Lib.hid cI
      clear hin hq hqn cI
      go_wp2_with fail
      go_loopw [7] (fun i wr => ∃ k : Nat, k ≤ M.length ∧ i = .int .i64 k ∧ Gr w5 wr none) (fun i _ => M.length - (intOf i).toNat)
      case atStart => exact ⟨0, Nat.zero_le _, rfl, Gr.refl _ _⟩
      case round =>
        obtain ⟨k, hk, rfl, hg⟩ := hrel
        have HGk := Lib.hid hg
        clear hg
        by_cases hlt : k < M.length
        · go_wp2_with fail
          go_loopw [8, 9] (fun v i wr' => ∃ j : Nat, j ≤ q.next.length ∧ i = .int .i64 j ∧ v = .bool ((q.next.take j).any fun m => decide (m = k) || decide ((k : Int) ∈ pathsFrom p m)) ∧ Gr w5 wr' none) (fun _ i _ => q.next.length - (intOf i).toNat)
          case atStart => exact ⟨0, Nat.zero_le _, rfl, by simp, HGk.out⟩
          case round =>
            obtain ⟨j, hj, rfl, rfl, hg⟩ := hrel
            have r4 := hg.cell c4 (by simp)
            have r0 := hg.cell q0 (by simp)
            have r1 := hg.cell q1 (by simp)
            have HGj := Lib.hid hg
            clear hg
            by_cases hjl : j < q.next.length
            · obtain ⟨b2, o2, rfl, -, e1⟩ := (HCI.out.gr0 HGj.out).at (i := j) (by simpa [zs] using hjl)
              rw [zs_get] at e1
              have HTK := Lib.hid (any_take (f := fun m => decide (m = k) || decide ((k : Int) ∈ pathsFrom p m)) hjl)
              obtain ⟨m, hm'⟩ : ∃ m, q.next[j] = m := ⟨_, rfl⟩
              rw [hm'] at e1
              have HTK2 := Lib.hid (show (q.next.take (j + 1)).any (fun m => decide (m = k) || decide ((k : Int) ∈ pathsFrom p m)) = ((q.next.take j).any (fun m => decide (m = k) || decide ((k : Int) ∈ pathsFrom p m)) || (decide (m = k) || decide ((k : Int) ∈ pathsFrom p m))) from by rw [HTK.out, hm'])
              clear HTK hm'
              obtain ⟨B, hB⟩ : ∃ B, (q.next.take j).any (fun m => decide (m = k) || decide ((k : Int) ∈ pathsFrom p m)) = B := ⟨_, rfl⟩
              have HTK := Lib.hid (show (q.next.take (j + 1)).any (fun m => decide (m = k) || decide ((k : Int) ∈ pathsFrom p m)) = (B || (decide (m = k) || decide ((k : Int) ∈ pathsFrom p m))) from by rw [HTK2.out, hB])
              rw [hB]
              clear HTK2 hB
              cases B
              · by_cases hmk : m = k
                · subst hmk
                  go_wp2_with fail
                  go_roundw
                  case rel => exact ⟨j + 1, by omega, by go_num, by rw [HTK.out]; simp, HGj.out⟩
                  case measure => simp [intOf]; omega
                · have hmk' : ((m : Int) == (k : Int)) = false := beq_eq_false_iff_ne.2 (by omega)
                  have HMK := Lib.hid hmk
                  go_wp2_with fail
                  refine (implPathsFrom_any p m _ _ _ _ _ (HQ.out.2.2.1.gr0 HGj.out) (HQ.out.2.2.2.gr0 HGj.out) (by omega) (by omega)).mono ?_
                  rintro e w8 ⟨a8, c8, rfl, hI8, -, -, hg8⟩
                  go_wp2_with fail
                  refine (bcIn_any (pathsFrom p m) k _ _ _ hI8 (pathsFrom_len p m)).mono ?_
                  rintro e w9 ⟨rfl, hg9⟩
                  have HG9 := Lib.hid ((HGj.out.trans0 hg8).trans0 hg9)
                  clear hg8 hg9 hI8
                  go_wp2_with fail
                  go_roundw
                  case rel => exact ⟨j + 1, by omega, by go_num, by rw [HTK.out]; simp [HMK.out], HG9.out⟩
                  case measure => simp [intOf]; omega
              · go_wp2_with fail
                go_roundw
                case rel => exact ⟨j + 1, by omega, by go_num, by rw [HTK.out]; simp, HGj.out⟩
                case measure => simp [intOf]; omega
            · obtain rfl : j = q.next.length := by omega
              rw [List.take_length, KEY.out k hlt]
              go_wp2_with fail
              refine (bcIn_any (pathsFrom p t) k _ _ _ (HL.out.gr0 HGj.out) hLl).mono ?_
              rintro e w8 ⟨rfl, hg8⟩
              have HG8 := Lib.hid (HGj.out.trans0 hg8)
              clear hg8
              generalize decide ((k : Int) ∈ pathsFrom p t) = bb
              cases bb
              all_goals
                go_wp2_with fail
                go_roundw
                case rel => exact ⟨k + 1, by omega, by go_num, HG8.out⟩
                case measure => simp [intOf]; omega
        · go_wp2
          go_ret
          exact ⟨rfl, HG.out.trans0 HGk.out⟩
    · have hnil : pathsFrom p tg = [] := pathsFrom_out (by rw [HM.out] at hin; unfold hasTwo; simp; omega)
      have HN := Lib.hid (show (pathsFrom p tg).length = 0 from by rw [hnil]; rfl)
      clear hnil
      have hcs : tg < 0 ∨ (M.length : Int) ≤ tg := by omega
      clear hin
      rcases hcs with hcs | hcs
      · go_wp2_with fail
        refine (specPathsFrom_any p tg _ _ _ _ _ HQ.out.2.2.1 HQ.out.2.2.2 (by omega) (by omega)).mono ?_
        rintro e w6 ⟨a6, c6, rfl, hI, -, -, hg⟩
        replace HQ := Lib.hid (HQ.out.gr hg)
        replace HG := Lib.hid (HG.out.trans0 hg)
        replace q0 := HQ.out.1
        replace q1 := HQ.out.2.1
        replace HL := Lib.hid (HL.out.gr0 hg)
        replace HP := Lib.hid (HP.out.gr hg)
        replace HS := Lib.hid (HS.out.gr0 hg)
        have HS2 := Lib.hid (hI)
        clear hI hg
        go_wp2_with fail
        refine (bcInts_same (pathsFrom p tg) _ _ _ _ _ HL.out HS2.out hLl).mono ?_
        rintro e w7 ⟨rfl, hg⟩
        replace HQ := Lib.hid (HQ.out.gr hg)
        replace HG := Lib.hid (HG.out.trans0 hg)
        replace q0 := HQ.out.1
        replace q1 := HQ.out.2.1
        replace HL := Lib.hid (HL.out.gr0 hg)
        replace HP := Lib.hid (HP.out.gr hg)
        replace HS := Lib.hid (HS.out.gr0 hg)
        replace HS2 := Lib.hid (HS2.out.gr0 hg)
        clear hg
        have hl0 := HN.out
        go_wp2_with fail
        go_ret
        exact ⟨rfl, HG.out⟩
      · go_wp2_with fail
        refine (specPathsFrom_any p tg _ _ _ _ _ HQ.out.2.2.1 HQ.out.2.2.2 (by omega) (by omega)).mono ?_
        rintro e w8 ⟨a6, c6, rfl, hI, -, -, hg⟩
        replace HQ := Lib.hid (HQ.out.gr hg)
        replace HG := Lib.hid (HG.out.trans0 hg)
        replace q0 := HQ.out.1
        replace q1 := HQ.out.2.1
        replace HL := Lib.hid (HL.out.gr0 hg)
        replace HP := Lib.hid (HP.out.gr hg)
        replace HS := Lib.hid (HS.out.gr0 hg)
        have HS2 := Lib.hid (hI)
        clear hI hg
        go_wp2_with fail
        refine (bcInts_same (pathsFrom p tg) _ _ _ _ _ HL.out HS2.out hLl).mono ?_
        rintro e w9 ⟨rfl, hg⟩
        replace HQ := Lib.hid (HQ.out.gr hg)
        replace HG := Lib.hid (HG.out.trans0 hg)
        replace q0 := HQ.out.1
        replace q1 := HQ.out.2.1
        replace HL := Lib.hid (HL.out.gr0 hg)
        replace HP := Lib.hid (HP.out.gr hg)
        replace HS := Lib.hid (HS.out.gr0 hg)
        replace HS2 := Lib.hid (HS2.out.gr0 hg)
        clear hg
        have hl0 := HN.out
        go_wp2_with fail
        go_ret
        exact ⟨rfl, HG.out⟩
end Go.Proofs.Ytpnaeijkllmihaa
