/- Walks of slices.Contains on ints, and of WayChoices of the program. -/
import Derived.Test.YtadlnjglpigjmaaZ5

namespace Go.Proofs.Ytadlnjglpigjmaa

open Go.RowKit

/-- What Index says: is there one? -/
def FoundI (l : List Int) (x : Int) (w : World) (e : Ending) (w' : World) : Prop := ∃ r : Int, e = .returned (.int .i64 r) ∧ decide (0 ≤ r) = decide (x ∈ l) ∧ w = w'
set_option maxHeartbeats 400000 in
theorem idxI_any (l : List Int) (x : Int) (a : Option Addr) (c : Nat) (w : World) (h : InAt w Any l a) (hl : l.length ≤ 1048576) :
    Calls Try.prog 136 #[.slice a l.length c, .int .i64 x] w (FoundI l x w) := by
  go_enter Try.func136, Try.ntmps136
  go_wp2
  go_loop [8] (fun i => ∃ k : Nat, k ≤ l.length ∧ i = .int .i64 k ∧ ∀ j (h : j < l.length), j < k → l[j] ≠ x) (fun i => l.length - (intOf i).toNat)
  case atStart => exact ⟨0, Nat.zero_le _, rfl, fun j _ h => absurd h (by omega)⟩
  case round =>
    obtain ⟨k, hk, rfl, hall⟩ := hrel
    have HA := Lib.hid hall
    clear hall
    by_cases hlt : k < l.length
    · obtain ⟨b, off, rfl, _, hc⟩ := h.at hlt
      by_cases he : x = l[k]
      · have HO := Lib.hid (show decide (x ∈ l) = true from decide_eq_true (by rw [he]; exact List.getElem_mem hlt))
        rw [← he] at hc
        clear he
        go_wp2
        go_ret
        exact ⟨k, rfl, by rw [HO.out]; simp, rfl⟩
      · have HN := Lib.hid he
        have he2 : (x == l[k]) = false := beq_eq_false_iff_ne.2 he
        obtain ⟨y, hy⟩ : ∃ y, l[k] = y := ⟨_, rfl⟩
        rw [hy] at hc he2
        have HY := Lib.hid hy
        clear he hy
        go_wp2
        go_round
        case rel => exact ⟨k + 1, by omega, by go_num, fun j hj hjk => by
          by_cases e : j = k
          · subst e; exact fun h => HN.out h.symm
          · exact HA.out j hj (by omega)⟩
        case measure => simp [intOf]; omega
    · have HO := Lib.hid (show decide (x ∈ l) = false from decide_eq_false (fun hm => by
        obtain ⟨j, hj, e⟩ := List.getElem_of_mem hm
        exact HA.out j hj (by omega) e))
      go_wp2
      go_ret
      exact ⟨-1, rfl, by rw [HO.out]; rfl, rfl⟩
theorem hasI_any (l : List Int) (x : Int) (a : Option Addr) (c : Nat) (w : World) (h : InAt w Any l a) (hl : l.length ≤ 1048576) :
    Calls Try.prog 126 #[.slice a l.length c, .int .i64 x] w fun e w' => e = .returned (.bool (decide (x ∈ l))) ∧ w = w' := by
  go_enter Try.func126, Try.ntmps126
  go_wp2_with fail
  refine (idxI_any l x a c _ h hl).mono ?_
  rintro e w1 ⟨r, rfl, hr, rfl⟩
  go_wp2_with fail
  go_ret
  exact ⟨by rw [← hr]; rfl, rfl⟩
/-- What WayChoices hands back, somewhere. -/
theorem HandIOk.out {l : List Int} {b : Bool} {w0 w w' : World} {a : Option Addr} {n c : Nat} (h : HandI l w (.returned (.slice a n c)) w') (hnc : n ≤ c) (hg : Gr w0 w none) : HandIOk l b w0 (.returned (.tuple #[.slice a n c, .bool b])) w' :=
  (h.after' hg).ok b hnc
theorem HandIOk.nil (w w' : World) (hg : Gr w w' none) : HandIOk [] false w (.returned (.tuple #[.slice none 0 0, .bool false])) w' :=
  (HandI.nil w w' hg).ok false (Nat.le_refl _)
end Go.Proofs.Ytadlnjglpigjmaa
