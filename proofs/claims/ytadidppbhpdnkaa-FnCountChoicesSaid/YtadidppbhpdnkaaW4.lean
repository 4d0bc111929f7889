/- Walk of CountChoices, in the reference. -/
import Derived.Test.YtadidppbhpdnkaaW3

namespace Go.Proofs.Ytadidppbhpdnkaa

open Go.RowKit

set_option maxRecDepth 100000 in
set_option maxHeartbeats 2000000 in
theorem specCountChoices_any (p : Pr) (at' ab : Option Addr) (ct cb : Nat) (w : World) (hT : InAt w Any p.types at') (hB : SlAt w Any p.body ab) (hs : p.types.length ≤ 1048576) (hc : St.count p.body ≤ 1048576) :
    Calls Try.prog 42 #[.agg #[.slice at' p.types.length ct, .slice ab p.body.length cb]] w fun e w' => e = .returned (.int .i64 (chs (ptsOf p) : Nat)) ∧ Gr w w' none := by
  have hg1 : ∀ o, Gr w (w.alloc o) none := fun o => (Gr.refl _ _).alloc _
  have hml := ptsOf_le p
  go_enter Try.func42, Try.ntmps42
  go_wp2_with fail
  refine (specPointsOf_any p at' ab ct cb _ (hT.gr0 (hg1 _)) (hB.gr0 (hg1 _)) hs hc).mono ?_
  rintro e w1 ⟨M, am, c, hM, rfl, hown, hg⟩
  have HM := Lib.hid hM
  rw [← hM] at hml
  clear hM
  have HG := Lib.hid ((hg1 _).trans0 hg)
  have HR := Lib.hid hown.read
  clear hg hown
  go_wp2_with fail
  go_loopw [3, 5] (fun v i wr => ∃ k : Nat, k ≤ M.length ∧ i = .int .i64 k ∧ v = .int .i64 (chs (M.take k) : Nat) ∧ Gr w1 wr none) (fun _ i _ => M.length - (intOf i).toNat)
  case atStart => exact ⟨0, Nat.zero_le _, rfl, rfl, Gr.refl _ _⟩
  case round =>
    obtain ⟨k, hk, rfl, rfl, hg⟩ := hrel
    have HGk := Lib.hid hg
    have hck := chs_le (M.take k)
    have htl : (M.take k).length ≤ k := by rw [List.length_take]; omega
    by_cases hlt : k < M.length
    · obtain ⟨b1, o1, rfl, hpt⟩ := (HR.out.gr hg) k hlt
      have HCT := Lib.hid (chs_take hlt)
      obtain ⟨q, hq⟩ : ∃ q, M[k] = q := ⟨_, rfl⟩
      rw [hq] at hpt
      have HCQ := Lib.hid (show chs (M.take (k + 1)) = chs (M.take k) + (if (q.next.length == 2) = true then 1 else 0) from by rw [HCT.out, hq])
      obtain ⟨m, hm⟩ : ∃ m, chs (M.take k) = m := ⟨_, rfl⟩
      have HM2 := Lib.hid (show chs (M.take (k + 1)) = m + (if (q.next.length == 2) = true then 1 else 0) from by rw [HCQ.out, hm])
      rw [hm] at hck ⊢
      clear hq hg HCT HCQ hm
      obtain ⟨an, cn, -, -, -, -, c4, -, -⟩ := hpt
      by_cases h2 : q.next.length = 2
      · have h2' : ((q.next.length : Int) == 2) = true := by rw [h2]; rfl
        have HB := Lib.hid (show (q.next.length == 2) = true from by rw [h2]; rfl)
        clear h2
        go_wp2_with fail
        go_roundw
        case rel => exact ⟨k + 1, by omega, by go_num, by rw [HM2.out, if_pos HB.out]; go_num, HGk.out⟩
        case measure => simp [intOf]; omega
      · have h2' : ((q.next.length : Int) == 2) = false := beq_eq_false_iff_ne.2 (by omega)
        have HB := Lib.hid (show ¬ (q.next.length == 2) = true from by simpa using h2)
        clear h2
        go_wp2_with fail
        go_roundw
        case rel => exact ⟨k + 1, by omega, by go_num, by rw [HM2.out, if_neg HB.out]; rfl, HGk.out⟩
        case measure => simp [intOf]; omega
    · obtain rfl : k = M.length := by omega
      go_wp2_with fail
      go_ret
      exact ⟨ret_int (by rw [List.take_length, HM.out]), HG.out.trans0 hg⟩
end Go.Proofs.Ytadidppbhpdnkaa
