/- Walks of the laws' own comparisons: equal lists are found equal, membership. -/
import Derived.Test.YtadidppbhpdnkaaN5

import Derived.Test.YtadidppbhpdnkaaM3

import Derived.Test.YtadidppbhpdnkaaS1

import Derived.Deep.RegionWith

namespace Go.Proofs.Ytadidppbhpdnkaa

open Go.RowKit

set_option maxHeartbeats 1000000 in
theorem bcInts_same (l : List Int) (a b : Option Addr) (c c' : Nat) (w : World) (ha : InAt w Any l a) (hb : InAt w Any l b) (hl : l.length ≤ 1048576) :
    Calls Try.prog 24 #[.slice a l.length c, .slice b l.length c'] w fun e w' => e = .returned (.bool true) ∧ Gr w w' none := by
  go_enter Try.func24, Try.ntmps24
  go_wp2
  go_loopw [5] (fun i wr => ∃ k : Nat, k ≤ l.length ∧ i = .int .i64 k ∧ Gr w wr none) (fun i _ => l.length - (intOf i).toNat)
  case atStart => exact ⟨0, Nat.zero_le _, rfl, Gr.refl _ _⟩
  case round =>
    obtain ⟨k, hk, rfl, hg⟩ := hrel
    by_cases hlt : k < l.length
    · obtain ⟨b1, o1, rfl, _, h1⟩ := (ha.gr0 hg).at hlt
      obtain ⟨b2, o2, rfl, _, h2⟩ := (hb.gr0 hg).at hlt
      go_wp2_with fail
      go_quiet (fail)
      go_wp2_with fail
      go_roundw
      case rel => exact ⟨k + 1, by omega, by go_num, hg.drewN _⟩
      case measure => simp [intOf]; omega
    · go_wp2
      go_ret
      exact ⟨rfl, hg⟩
theorem mem_drop {l : List Int} {k : Nat} (h : k < l.length) (x : Int) : x ∈ l.drop k ↔ l[k] = x ∨ x ∈ l.drop (k + 1) := by
  rw [List.drop_eq_getElem_cons h, List.mem_cons]
  constructor
  · rintro (h | h)
    · exact .inl h.symm
    · exact .inr h
  · rintro (h | h)
    · exact .inl h.symm
    · exact .inr h
set_option maxHeartbeats 1000000 in
theorem bcIn_any (l : List Int) (x : Int) (a : Option Addr) (c : Nat) (w : World) (ha : InAt w Any l a) (hl : l.length ≤ 1048576) :
    Calls Try.prog 27 #[.slice a l.length c, .int .i64 x] w fun e w' => e = .returned (.bool (decide (x ∈ l))) ∧ Gr w w' none := by
  go_enter Try.func27, Try.ntmps27
  go_wp2
  go_loopw [5] (fun i wr => ∃ k : Nat, k ≤ l.length ∧ (x ∈ l ↔ x ∈ l.drop k) ∧ i = .int .i64 k ∧ Gr w wr none) (fun i _ => l.length - (intOf i).toNat)
  case atStart => exact ⟨0, Nat.zero_le _, by simp, rfl, Gr.refl _ _⟩
  case round =>
    obtain ⟨k, hk, hm, rfl, hg⟩ := hrel
    have HM := Lib.hid hm
    clear hm
    by_cases hlt : k < l.length
    · obtain ⟨b1, o1, rfl, _, h1⟩ := (ha.gr0 hg).at hlt
      obtain ⟨y, hy⟩ : ∃ y, l[k] = y := ⟨_, rfl⟩
      have HY := Lib.hid hy
      rw [hy] at h1
      clear hy
      by_cases he : y = x
      · subst he
        go_wp2_with fail
        go_ret
        have hmem : y ∈ l := HY.out ▸ List.getElem_mem hlt
        exact ⟨by rw [decide_eq_true hmem]; rfl, hg⟩
      · go_wp2_with fail
        go_roundw
        case rel => exact ⟨k + 1, by omega, by rw [HM.out, mem_drop hlt, HY.out]; simp [he], by go_num, hg⟩
        case measure => simp [intOf]; omega
    · go_wp2
      go_ret
      refine ⟨?_, hg⟩
      have : x ∉ l := by rw [HM.out, List.drop_of_length_le (by omega)]; simp
      rw [decide_eq_false this]; rfl
theorem bcInts_zs (l : List Nat) (a b : Option Addr) (c c' : Nat) (w : World) (ha : InAt w Any (zs l) a) (hb : InAt w Any (zs l) b) (hl : l.length ≤ 1048576) :
    Calls Try.prog 24 #[.slice a l.length c, .slice b l.length c'] w fun e w' => e = .returned (.bool true) ∧ Gr w w' none := by
  have e : (zs l).length = l.length := by simp [zs]
  rw [← e]
  exact bcInts_same (zs l) a b c c' w ha hb (by omega)
end Go.Proofs.Ytadidppbhpdnkaa
