/- The law FnRegionLoans: the walk of the law's own function. -/
import Derived.Test.YtpnaeijkllmihaaG3

import Derived.Test.YtpnaeijkllmihaaB21

import Derived.Test.YtpnaeijkllmihaaF4

import Derived.Test.YtpnaeijkllmihaaN6

namespace Go.Proofs.Ytpnaeijkllmihaa

open Go.RowKit

/-- Not found among the first k rows. -/
def FoundTo (L : List (List Value)) (x : Int) (k : Nat) (b : Bool) : Prop := b = false → ∀ j (h : j < L.length), j < k → (L[j])[0]? ≠ some (.int .i64 x)
theorem FoundTo.step {L : List (List Value)} {x y : Int} {k : Nat} {b : Bool} {r : List Value} (h : FoundTo L x k b) (hk : k < L.length) (e : L[k] = .int .i64 y :: r) : FoundTo L x (k + 1) (b || (y == x)) := by
  intro hb j hj hjk
  simp only [Bool.or_eq_false_iff, beq_eq_false_iff_ne] at hb
  by_cases ej : j = k
  · subst ej
    rw [e]
    intro h2
    simp at h2
    exact hb.2 h2
  · exact h hb.1 j hj (by omega)
theorem FoundTo.done {p : Pr} {v x : Int} {b : Bool} (h : FoundTo (loansOf p) x (loansOf p).length b) (hx : x ∈ regionOf p v) : b = true := by
  obtain ⟨⟨k, r, hr, rfl, u, y, er⟩, -⟩ := region_loan hx
  obtain ⟨j, hj, ej⟩ := List.getElem_of_mem hr
  cases b with
  | true => rfl
  | false => exact absurd (by rw [ej, er]; rfl) (h rfl j hj hj)
set_option maxRecDepth 100000 in
set_option maxHeartbeats 4000000 in
theorem fnRegionLoans_walk (a : Option Addr) (n c : Nat) (w : World) (h : BytesIn w a n) (hc : n ≤ c) (hm : n ≤ maxLen) :
    Calls Try.prog 10 #[.slice a n c] w fun e w' => e = .returned (.bool true) ∧ Gr w w' none := by
  unfold maxLen at hm
  by_cases hbig : 1048576 < n
  · go_enter Try.func10, Try.ntmps10
    go_wp2
    go_ret
    exact ⟨rfl, Gr.refl _ _⟩
  · go_enter Try.func10, Try.ntmps10
    go_wp2_with fail
    refine (regionD_any a n c w h hc (by omega)).mono ?_
    rintro e w1 ⟨p, v0, v1, tg, rfl, ⟨at', ab, ct, cb, rfl, rfl, hT, hB, ht, hcn⟩, hk1, hk2, hg1⟩
    have hlb := count_length p.body
    have hQ := PrIn.new (ct := ct) (cb := cb) hT hB
    have hgA := hg1.alloc (.cells #[.slice at' p.types.length ct, .slice ab p.body.length cb] 26)
    clear hT hB hg1 h
    go_wp2_with fail
    obtain ⟨wA, hwA⟩ : ∃ wA : World, wA = w1.alloc (.cells #[.slice at' p.types.length ct, .slice ab p.body.length cb] 26) := ⟨_, rfl⟩
    rw [← hwA] at hQ hgA ⊢
    clear hwA
    have HQ := Lib.hid hQ
    have HG := Lib.hid hgA
    have q0 := hQ.1
    have q1 := hQ.2.1
    clear hQ hgA
    obtain ⟨R, hR⟩ : ∃ R, regionOf p tg = R := ⟨_, rfl⟩
    have HR := Lib.hid hR
    have hRl : R.length ≤ 1048576 := by rw [← hR]; exact regionOf_len p tg
    clear hR
    refine (implRegionOf_any p tg _ _ _ _ _ HQ.out.2.2.1 HQ.out.2.2.2 (by omega) (by omega)).mono ?_
    rw [HR.out]
    rintro e w2 ⟨a2, c2, rfl, hI, -, -, hg⟩
    replace HQ := Lib.hid (HQ.out.gr hg)
    replace HG := Lib.hid (HG.out.trans0 hg)
    replace q0 := HQ.out.1
    replace q1 := HQ.out.2.1
    have HL := Lib.hid (hI)
    clear hI hg
    go_wp2_with fail
    refine (specRegionOf_any p tg _ _ _ _ _ HQ.out.2.2.1 HQ.out.2.2.2 (by omega) (by omega)).mono ?_
    rw [HR.out]
    rintro e w3 ⟨a3, c3, rfl, hI, -, -, hg⟩
    replace HQ := Lib.hid (HQ.out.gr hg)
    replace HG := Lib.hid (HG.out.trans0 hg)
    replace q0 := HQ.out.1
    replace q1 := HQ.out.2.1
    replace HL := Lib.hid (HL.out.gr0 hg)
    have HS := Lib.hid (hI)
    clear hI hg
    go_wp2_with fail
    refine (bcInts_same R _ _ _ _ _ HL.out HS.out hRl).mono ?_
    rintro e w4 ⟨rfl, hg⟩
    replace HQ := Lib.hid (HQ.out.gr hg)
    replace HG := Lib.hid (HG.out.trans0 hg)
    replace q0 := HQ.out.1
    replace q1 := HQ.out.2.1
    replace HL := Lib.hid (HL.out.gr0 hg)
    replace HS := Lib.hid (HS.out.gr0 hg)
    clear hg
    by_cases hz : R.length = 0
    · have hz' : ((R.length : Int) == 0) = true := by rw [hz]; rfl
      clear hz
      go_wp2_with fail
      refine (specRegionOf_any p tg _ _ _ _ _ HQ.out.2.2.1 HQ.out.2.2.2 (by omega) (by omega)).mono ?_
      rw [HR.out]
      rintro e w5 ⟨a5, c5, rfl, hI, -, -, hg⟩
      replace HQ := Lib.hid (HQ.out.gr hg)
      replace HG := Lib.hid (HG.out.trans0 hg)
      replace q0 := HQ.out.1
      replace q1 := HQ.out.2.1
      replace HL := Lib.hid (HL.out.gr0 hg)
      have HS := Lib.hid (hI)
      clear hI hg
      go_wp2_with fail
      refine (bcInts_same R _ _ _ _ _ HL.out HS.out hRl).mono ?_
      rintro e w6 ⟨rfl, hg⟩
      replace HQ := Lib.hid (HQ.out.gr hg)
      replace HG := Lib.hid (HG.out.trans0 hg)
      replace q0 := HQ.out.1
      replace q1 := HQ.out.2.1
      replace HL := Lib.hid (HL.out.gr0 hg)
      replace HS := Lib.hid (HS.out.gr0 hg)
      clear hg
      go_wp2_with fail
      go_ret
      exact ⟨by simp, HG.out⟩
    · have hz' : ((R.length : Int) == 0) = false := beq_eq_false_iff_ne.2 (by omega)
      have hpos : 0 < R.length := by omega
      clear hz
      go_wp2_with fail
      obtain ⟨LL, hLL⟩ : ∃ LL, loansOf p = LL := ⟨_, rfl⟩
      have HLL := Lib.hid hLL
      have hLLl : LL.length ≤ 1048576 := by rw [← hLL]; exact loansOf_len p
      have HIS := Lib.hid (show ∀ r ∈ LL, ∃ (x0 : Int) (x1 : Bool) (x2 : Int), r = [.int .i64 x0, .bool x1, .int .i64 x2] from hLL ▸ fun r hr => by obtain ⟨k, u, y, _, _, _, e, _⟩ := loans_law hr; exact ⟨_, _, _, e⟩)
      clear hLL
      refine (implLoansOf_any p  _ _ _ _ _ HQ.out.2.2.1 HQ.out.2.2.2 (by omega) (by omega)).mono ?_
      rw [HLL.out]
      rintro e w5 ⟨a6, c6, rfl, hI, -, -, hg⟩
      replace HQ := Lib.hid (HQ.out.gr hg)
      replace HG := Lib.hid (HG.out.trans0 hg)
      replace q0 := HQ.out.1
      replace q1 := HQ.out.2.1
      replace HL := Lib.hid (HL.out.gr0 hg)
      replace HS := Lib.hid (HS.out.gr0 hg)
      have HO := Lib.hid (hI)
      clear hI hg
      go_wp2_with fail
      have HV := Lib.hid (show ∃ j : Nat, tg = j ∧ j < p.types.length ∧ isRef (p.types.getD j 0) = true from (region_loan (p := p) (v := tg) (x := R[0]) (by rw [HR.out]; exact List.getElem_mem hpos)).2)
      go_loopw [7] (fun i wr => ∃ k : Nat, k ≤ R.length ∧ i = .int .i64 k ∧ Gr w5 wr none) (fun i _ => R.length - (intOf i).toNat)
      case atStart => exact ⟨0, Nat.zero_le _, rfl, Gr.refl _ _⟩
      case round =>
        obtain ⟨k, hk, rfl, hg⟩ := hrel
        by_cases hlt : k < R.length
        · obtain ⟨b1, o1, rfl, -, e1⟩ := (HL.out.gr0 hg).at hlt
          have HX := Lib.hid (show R[k] ∈ regionOf p tg from by rw [HR.out]; exact List.getElem_mem hlt)
          obtain ⟨x, hx⟩ : ∃ x, R[k] = x := ⟨_, rfl⟩
          rw [hx] at e1 HX
          have HG2 := Lib.hid hg
          have HO2 := Lib.hid (HO.out.gr0 hg)
          clear hx hg
          go_wp2_with fail
          go_loopw [8, 9] (fun b j wr2 => ∃ (m : Nat) (f : Bool), m ≤ LL.length ∧ b = .bool f ∧ j = .int .i64 m ∧ FoundTo LL x m f ∧ Gr wr wr2 none) (fun _ j _ => LL.length - (intOf j).toNat)
          case atStart => exact ⟨0, false, Nat.zero_le _, rfl, rfl, fun _ j _ h => absurd h (by omega), Gr.refl _ _⟩
          case round =>
            obtain ⟨m, f, hm, rfl, rfl, hF, hg3⟩ := hrel
            have HF := Lib.hid hF
            have HG3 := Lib.hid hg3
            replace e1 := hg3.cell e1 (by simp)
            clear hF hg3
            by_cases hlm : m < LL.length
            · obtain ⟨b2, o2, rfl, -, h2⟩ := (HO2.out.gr0 HG3.out) m hlm
              obtain ⟨x0, x1, x2, er⟩ := HIS.out LL[m] (List.getElem_mem hlm)
              have HN := Lib.hid (HF.out.step hlm er)
              rw [er] at h2
              have i0 := h2 0 _ rfl
              have i1 := h2 1 _ rfl
              have i2 := h2 2 _ rfl
              simp only [Nat.add_zero] at i0
              clear h2 er
              obtain ⟨g, hgb⟩ : ∃ g, (x0 == x) = g := ⟨_, rfl⟩
              rw [hgb] at HN
              cases f <;> cases g
              all_goals
                go_upto_region 15 with fail
                go_region
                all_goals
                  go_wp2_with fail
                  go_roundw
                  case rel => exact ⟨m + 1, _, by omega, rfl, by go_num, HN.out, HG3.out.drew⟩
                  case measure => simp [intOf]; omega
            · obtain rfl : m = LL.length := by omega
              obtain rfl : f = true := by have := HF.out; rw [← HLL.out] at this; exact this.done HX.out
              go_wp2_with fail
              go_roundw
              case rel => exact ⟨k + 1, by omega, by go_num, HG2.out.trans0 HG3.out⟩
              case measure => simp [intOf]; omega
        · obtain ⟨j, rfl, hj, hir⟩ := HV.out
          obtain ⟨bt, ot, rfl, -, e1⟩ := (HQ.out.2.2.1.gr0 hg).at hj
          have hir' : isRef p.types[j] = true := by simpa [hj] using hir
          have HIR := Lib.hid hir'
          obtain ⟨T, hT⟩ : ∃ T, p.types[j] = T := ⟨_, rfl⟩
          rw [hT] at e1 HIR
          replace q0 := hg.cell q0 (by simp)
          replace q1 := hg.cell q1 (by simp)
          have HG2 := Lib.hid hg
          clear hir hir' hT hg
          go_wp2_with fail
          refine (implIsRef_any T _).mono ?_
          rw [HIR.out]
          rintro e w9 ⟨rfl, rfl⟩
          go_wp2_with fail
          go_ret
          exact ⟨rfl, HG.out.trans0 HG2.out⟩
end Go.Proofs.Ytpnaeijkllmihaa
