/- Walks: the types of a program, in the program's own check. -/
import Derived.Test.YtjlnfmiekmliaaaD
namespace Go.Proofs.Ytjlnfmiekmliaaa
open Go.RowKit

def within (n lo hi : Int) : Bool := decide (lo ≤ n) && decide (n ≤ hi)
theorem within_any (n lo hi : Int) (w : World) :
    Calls Try.prog 91 #[.int .i64 n, .int .i64 lo, .int .i64 hi] w fun e w' => e = .returned (.bool (within n lo hi)) ∧ w = w' := by
  go_enter Try.func91, Try.ntmps91
  go_wp2
  all_goals go_ret
  · simp [within, *]
  · exact ⟨by rw [within, decide_eq_false (by omega)]; rfl, rfl⟩

def okT (t : Int) : Bool := within t 1 4
theorem okT_any (t : Int) (w : World) :
    Calls Try.prog 107 #[.int .i64 t] w fun e w' => e = .returned (.bool (!okT t)) ∧ w = w' := by
  go_enter Try.func107, Try.ntmps107
  go_wp2_with (go_at_call 91; refine (within_any _ _ _ _).mono ?_; rintro e w' ⟨rfl, rfl⟩)
  go_ret
  exact ⟨rfl, rfl⟩

/-- What IndexFunc says: is there one? -/
def FoundInts (l : List Int) (w : World) (e : Ending) (w' : World) : Prop := ∃ r : Int, e = .returned (.int .i64 r) ∧ decide (0 ≤ r) = !(l.all okT) ∧ w = w'
set_option maxHeartbeats 400000 in
theorem index_any (l : List Int) (a : Option Addr) (c : Nat) (w : World) (h : InAt w Any l a) (hl : l.length ≤ 9223372036854775807) :
    Calls Try.prog 111 #[.slice a l.length c, .func (.func 107) #[] #[]] w (FoundInts l w) := by
  go_enter Try.func111, Try.ntmps111
  go_wp2
  go_loop [8] (fun i => ∃ k : Nat, k ≤ l.length ∧ i = .int .i64 k ∧ (l.take k).all okT = true) (fun i => l.length - (intOf i).toNat)
  case atStart => exact ⟨0, Nat.zero_le _, rfl, by simp⟩
  case round =>
    obtain ⟨k, hk, rfl, hall⟩ := hrel
    by_cases hlt : k < l.length
    · obtain ⟨b, off, rfl, _, hc⟩ := h.at hlt
      have HA := Lib.hid hall
      clear hall
      by_cases ho : okT l[k] = true
      · have HO := Lib.hid ho
        go_wp2_with (go_at_call 107; refine (okT_any _ _).mono ?_; rintro e w' ⟨rfl, rfl⟩)
        all_goals go_round
        case rel => exact ⟨k + 1, by omega, by go_num, all_take_succ hlt HA.out HO.out⟩
        case measure => simp [intOf]; omega
      · have ho' : okT l[k] = false := by simpa using ho
        have HO := Lib.hid ho'
        clear ho
        go_wp2_with (go_at_call 107; refine (okT_any _ _).mono ?_; rintro e w' ⟨rfl, rfl⟩)
        go_ret
        exact ⟨k, rfl, by rw [all_at_false hlt HO.out]; simp, rfl⟩
    · go_wp2
      go_ret
      exact ⟨-1, rfl, by rw [all_take_all (by omega) hall]; rfl, rfl⟩

theorem contains_any (l : List Int) (a : Option Addr) (c : Nat) (w : World) (h : InAt w Any l a) (hl : l.length ≤ 9223372036854775807) :
    Calls Try.prog 106 #[.slice a l.length c, .func (.func 107) #[] #[]] w fun e w' => e = .returned (.bool (!(l.all okT))) ∧ w = w' := by
  go_enter Try.func106, Try.ntmps106
  go_wp2_with (go_at_call 111; refine (index_any l _ _ _ h hl).mono ?_; rintro e w' ⟨r, rfl, hr, rfl⟩; have HR := Lib.hid hr; clear hr)
  go_ret
  exact ⟨by first | rfl | (have := HR.out; simp [this]), rfl⟩

def typesOk (l : List Int) : Bool := decide ((l.length : Int) ≤ 6) && l.all okT
theorem typesOk_any (l : List Int) (a : Option Addr) (c : Nat) (w : World) (h : InAt w Any l a) (hl : l.length ≤ 9223372036854775807) :
    Calls Try.prog 99 #[.slice a l.length c] w fun e w' => e = .returned (.bool (typesOk l)) ∧ w = w' := by
  go_enter Try.func99, Try.ntmps99
  go_wp2_with (go_at_call 106; refine (contains_any l _ _ _ h hl).mono ?_; rintro e w' ⟨rfl, rfl⟩)
  all_goals go_ret
  · rename_i g; exact ⟨by rw [typesOk, decide_eq_true g]; simp, rfl⟩
  · rename_i g; exact ⟨by rw [typesOk, decide_eq_false (by omega)]; rfl, rfl⟩
end Go.Proofs.Ytjlnfmiekmliaaa
