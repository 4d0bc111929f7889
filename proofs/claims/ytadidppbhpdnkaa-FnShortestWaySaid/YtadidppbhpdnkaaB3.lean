/- Walks of the parser of programs, weakly: it hands back some statements in new memory, no more of them than the bytes it has read. -/
import Derived.Test.YtadidppbhpdnkaaB2

namespace Go.Proofs.Ytadidppbhpdnkaa

open Go.RowKit

/-- Whether a word is there: if so, within the text. -/
def Told (z m : Nat) (a : Int) (w : World) (e : Ending) (w' : World) : Prop := ∃ b : Bool, e = .returned (.bool b) ∧ (b = true → 0 ≤ a ∧ a + m ≤ z) ∧ w = w'
theorem l1At_any (s word : ByteArray) (at' : Int) (w : World) (hs : s.size ≤ 1000) (hw : word.size ≤ 100) (h1 : -10000 ≤ at') (h2 : at' ≤ 10000) :
    Calls Try.prog 98 #[.string s, .int .i64 at', .string word] w (Told s.size word.size at' w) := by
  by_cases h0 : 0 ≤ at'
  · obtain ⟨k, rfl⟩ : ∃ k : Nat, at' = k := ⟨at'.toNat, by omega⟩
    by_cases h3 : (k : Int) + word.size ≤ s.size
    · have HA := Lib.hid (show ∀ b : Bool, b = true → 0 ≤ (k : Int) ∧ (k : Int) + word.size ≤ s.size from fun _ _ => ⟨h0, h3⟩)
      have h4 : (k : Int) ≤ s.size := by omega
      have h5 : (k : Int) ≤ (k : Int) + word.size := by omega
      go_enter Try.func98, Try.ntmps98
      go_wp2
      go_ret
      exact ⟨_, rfl, HA.out _, rfl⟩
    · go_enter Try.func98, Try.ntmps98
      go_wp2
      go_ret
      exact ⟨_, rfl, (fun h => by cases h), rfl⟩
  · go_enter Try.func98, Try.ntmps98
    go_wp2
    go_ret
    exact ⟨_, rfl, (fun h => by cases h), rfl⟩
theorem l1Var_any (s : ByteArray) (at' : Int) (w : World) (_hs : s.size ≤ 1000) (h1 : -10000 ≤ at') (h2 : at' ≤ 10000) :
    Calls Try.prog 106 #[.string s, .int .i64 at'] w fun e w' => ∃ v : Int, e = .returned (.int .i64 v) ∧ w = w' := by
  by_cases h0 : 0 ≤ at'
  · obtain ⟨k, rfl⟩ : ∃ k : Nat, at' = k := ⟨at'.toNat, by omega⟩
    by_cases h3 : k < s.size
    · go_enter Try.func106, Try.ntmps106
      go_wp2
      all_goals go_ret
      all_goals exact ⟨⟨_, rfl⟩, rfl⟩
    · have h4 : s.size ≤ k := by omega
      go_enter Try.func106, Try.ntmps106
      go_wp2
      all_goals go_ret
      all_goals exact ⟨⟨_, rfl⟩, rfl⟩
  · have h4 : at' < 0 := by omega
    go_enter Try.func106, Try.ntmps106
    go_wp2
    all_goals go_ret
    all_goals exact ⟨⟨_, rfl⟩, rfl⟩
theorem l1Digit_any (s : ByteArray) (at' : Int) (w : World) (_hs : s.size ≤ 1000) (h1 : -10000 ≤ at') (h2 : at' ≤ 10000) :
    Calls Try.prog 108 #[.string s, .int .i64 at'] w fun e w' => ∃ v : Int, e = .returned (.int .i64 v) ∧ w = w' := by
  by_cases h0 : 0 ≤ at'
  · obtain ⟨k, rfl⟩ : ∃ k : Nat, at' = k := ⟨at'.toNat, by omega⟩
    by_cases h3 : k < s.size
    · go_enter Try.func108, Try.ntmps108
      go_wp2
      all_goals go_ret
      all_goals exact ⟨⟨_, rfl⟩, rfl⟩
    · have h4 : s.size ≤ k := by omega
      go_enter Try.func108, Try.ntmps108
      go_wp2
      all_goals go_ret
      all_goals exact ⟨⟨_, rfl⟩, rfl⟩
  · have h4 : at' < 0 := by omega
    go_enter Try.func108, Try.ntmps108
    go_wp2
    all_goals go_ret
    all_goals exact ⟨⟨_, rfl⟩, rfl⟩

/-- Statements were read from the offset a on. -/
def ReadL (z : Nat) (a : Int) (more : Nat) (w : World) (e : Ending) (w' : World) : Prop :=
  ∃ (l : List St) (ao : Option Addr) (cap : Nat) (next : Int), e = .returned (.tuple #[.slice ao l.length cap, .int .i64 next]) ∧ SlAt w' (New w.heap.size) l ao ∧ Gr w w' none ∧ ((next = -1 ∧ l = []) ∨ (0 ≤ a ∧ a + more ≤ next ∧ next ≤ z ∧ (St.count l : Int) + more ≤ next - a))
/-- A statement was read from the offset a on. -/
def ReadS (z : Nat) (a : Int) (w : World) (e : Ending) (w' : World) : Prop :=
  ∃ (s : St) (r : List Value) (next : Int), e = .returned (.tuple #[.agg r.toArray, .int .i64 next]) ∧ StRow w' (New w.heap.size) s r ∧ Gr w w' none ∧ next ≤ z + 10 ∧ -1 ≤ next ∧ (0 ≤ next → a < next ∧ (1 + s.inner : Int) ≤ next - a)
def LC (d : Nat) : Prop := ∀ (s : ByteArray) (a : Int) (w : World), s.size ≤ 600 → 0 ≤ a → a ≤ s.size → Calls Try.prog 91 #[.string s, .int .i64 a, .int .i64 d] w (ReadL s.size a 0 w)
def BC (d : Int) : Prop := ∀ (s : ByteArray) (a : Int) (w : World), s.size ≤ 600 → -1 ≤ a → a ≤ s.size + 10 → Calls Try.prog 107 #[.string s, .int .i64 a, .int .i64 d] w (ReadL s.size a 2 w)
def PC (d : Nat) : Prop := ∀ (s : ByteArray) (a : Int) (w : World), s.size ≤ 600 → 0 ≤ a → a ≤ s.size → Calls Try.prog 99 #[.string s, .int .i64 a, .int .i64 d] w (ReadS s.size a w)
def s1 (c : UInt8) : ByteArray := { data := #[c] }
set_option maxHeartbeats 1000000 in
theorem braces_none : BC (-1) := by
  intro s a w hs h1 h2
  go_enter Try.func107, Try.ntmps107
  go_wp2_with fail
  refine (l1At_any s { data := #[123] } a _ (by omega) (by decide) (by omega) (by omega)).mono ?_
  rintro e w' ⟨b, rfl, -, rfl⟩
  cases b
  · go_wp2_with fail
    go_ret2
    exact ⟨[], none, 0, -1, rfl, by simp [SlAt], Gr.refl _ _, .inl ⟨rfl, rfl⟩⟩
  · go_wp2_with fail
    go_ret2
    exact ⟨[], none, 0, -1, rfl, by simp [SlAt], Gr.refl _ _, .inl ⟨rfl, rfl⟩⟩
set_option maxHeartbeats 2000000 in
theorem braces_step (d : Nat) (_hd : d ≤ 100) (hL : LC d) : BC d := by
  intro s a w hs h1 h2
  have HL := Lib.hid hL
  clear hL
  go_enter Try.func107, Try.ntmps107
  go_wp2_with fail
  refine (l1At_any s { data := #[123] } a _ (by omega) (by decide) (by omega) (by omega)).mono ?_
  rintro e w' ⟨b, rfl, hb, rfl⟩
  cases b
  · clear hb
    go_wp2_with fail
    go_ret2
    exact ⟨[], none, 0, -1, rfl, by simp [SlAt], Gr.refl _ _, .inl ⟨rfl, rfl⟩⟩
  · have hb' := hb rfl
    have hsz : (ByteArray.mk #[123]).size = 1 := rfl
    rw [hsz] at hb'
    obtain ⟨hb0, hb1⟩ := hb'
    clear hb hsz
    go_wp2_with fail
    refine (HL.out s (a + 1) _ hs (by omega) (by omega)).mono ?_
    rintro e w1 ⟨l, ao, cap, next, rfl, hl, hg, hn⟩
    have hn1 : -1 ≤ next ∧ next ≤ 600 := by omega
    obtain ⟨hn1, hn2⟩ := hn1
    have HN := Lib.hid hn
    clear hn
    go_wp2_with fail
    refine (l1At_any s { data := #[125] } next _ (by omega) (by decide) (by omega) (by omega)).mono ?_
    rintro e w' ⟨b, rfl, hb, rfl⟩
    cases b
    · clear hb
      go_wp2_with fail
      go_ret2
      exact ⟨[], none, 0, -1, rfl, by simp [SlAt], hg, .inl ⟨rfl, rfl⟩⟩
    · have hb' := hb rfl
      have hsz : (ByteArray.mk #[125]).size = 1 := rfl
      rw [hsz] at hb'
      obtain ⟨hb2, hb3⟩ := hb'
      clear hb hsz
      go_wp2_with fail
      go_ret2
      exact ⟨l, ao, cap, next + 1, rfl, hl, hg, .inr (by have := HN.out; omega)⟩
end Go.Proofs.Ytadidppbhpdnkaa
