/- Walks of the laws' own helpers: size, copies. -/
import Derived.Test.YtjlnfmiekmliaaaV5
import Derived.Laws.MakeOwn
namespace Go.Proofs.Ytjlnfmiekmliaaa
open Go.RowKit

/-! ### Size -/
def Sized (c : Nat) (left : Int) (w : World) (e : Ending) (w' : World) : Prop :=
  ∃ r : Int, e = .returned (.int .i64 r) ∧ ((0 ≤ r ∧ r = left - c) ∨ (r = -1 ∧ left < c)) ∧ Gr w w' none
theorem szIntS_any (l : List Int) (a : Option Addr) (c : Nat) (left : Int) (w : World) (h0 : 0 ≤ left) (h1 : left ≤ 1048576) (hl : l.length ≤ maxLen) :
    Calls Try.prog 55 #[.slice a l.length c, .int .i64 left] w (Sized l.length left w) := by
  unfold maxLen at hl
  go_enter Try.func55, Try.ntmps55
  by_cases h : left < l.length
  · go_wp2
    go_ret
    exact ⟨-1, rfl, .inr ⟨rfl, h⟩, Gr.refl _ _⟩
  · go_wp2
    go_ret
    exact ⟨left - l.length, rfl, .inl ⟨by omega, rfl⟩, Gr.refl _ _⟩

def SzC (n : Nat) : Prop := ∀ (s : St) (at' ae : Option Addr) (ct ce : Nat) (left : Int) (w : World), s.inner + 1 ≤ n → 0 ≤ left → left ≤ 1048576 →
  SlAt w Any s.thn at' → SlAt w Any s.els ae → s.thn.length ≤ maxLen → s.els.length ≤ maxLen →
  Calls Try.prog 89 #[.agg #[.int .i64 s.op, .int .i64 s.x, .int .i64 s.y, .int .i64 s.n, .slice at' s.thn.length ct, .slice ae s.els.length ce], .int .i64 left] w (Sized s.inner left w)
def SzSC (n : Nat) : Prop := ∀ (l : List St) (a : Option Addr) (c : Nat) (left : Int) (w : World), St.count l ≤ n → 0 ≤ left → left ≤ 1048576 → l.length ≤ maxLen → SlAt w Any l a →
  Calls Try.prog 56 #[.slice a l.length c, .int .i64 left] w (Sized (St.count l) left w)
theorem count_take_ge (l : List St) (k : Nat) (h : k ≤ l.length) : St.count (l.take k) + (l.length - k) ≤ St.count l := by
  induction l generalizing k with
  | nil => simp [St.count]
  | cons s r ih =>
    have h1 : r.length ≤ St.count r := by
      clear ih h
      induction r with
      | nil => simp
      | cons s r ih => simp only [List.length_cons, St.count]; omega
    cases k with
    | zero => simp only [List.take_zero, St.count, List.length_cons]; omega
    | succ k => have := ih k (by simpa using h); simp only [List.take_succ_cons, St.count, List.length_cons]; omega
theorem length_count (l : List St) : l.length ≤ St.count l := by have := count_take_ge l 0 (Nat.zero_le _); simp [St.count] at this; exact this

set_option maxRecDepth 100000 in
set_option maxHeartbeats 1000000 in
theorem szs_step (n : Nat) (hS : SzC n) : SzSC n := by
  intro l a c left w hn h0 h1 hl hL
  have HS := Lib.hid hS
  clear hS
  have hlc := length_count l
  unfold maxLen at hl
  by_cases hlen : left < l.length
  · go_enter Try.func56, Try.ntmps56
    go_wp2
    go_ret
    exact ⟨-1, rfl, .inr ⟨rfl, by omega⟩, Gr.refl _ _⟩
  · go_enter Try.func56, Try.ntmps56
    go_wp2
    go_loopw [1, 5] (fun r i wr => ∃ (k : Nat) (q : Int), k ≤ l.length ∧ i = .int .i64 k ∧ r = .int .i64 q ∧ 0 ≤ q ∧ q + St.count (l.take k) + (l.length - k : Nat) = left ∧ Gr w wr none) (fun _ i _ => l.length - (intOf i).toNat)
    case atStart => exact ⟨0, left - l.length, Nat.zero_le _, rfl, rfl, by omega, by simp [St.count], Gr.refl _ _⟩
    case round =>
      obtain ⟨k, q, hk, rfl, rfl, hq0, hq1, hg⟩ := hrel
      have hq2 : q ≤ 1048576 := by omega
      have HQ := Lib.hid hq1
      clear hq1
      by_cases hlt : k < l.length
      · obtain ⟨b, off, rfl, hs⟩ := (hL.gr0 hg).at hlt
        have hct := count_take_succ hlt
        have hge := count_take_ge l (k + 1) hlt
        have hin := count_get hlt
        obtain ⟨s, es⟩ : ∃ s, l[k] = s := ⟨_, rfl⟩
        rw [es] at hs hin hct
        clear es
        have HCT := Lib.hid hct
        clear hct
        obtain ⟨_, ht, he, at', ct, ae, ce, c0, c1, c2, c3, c4, c5, r4, r5⟩ := hs.out
        go_wp2_with fail
        refine (HS.out s at' ae ct ce q wr (by omega) hq0 hq2 r4 r5 ht he).mono ?_
        rintro e w' ⟨r, rfl, hr, hg2⟩
        clear c0 c1 c2 c3 c4 c5 hs r4 r5
        rcases hr with ⟨hr0, hr1⟩ | ⟨hr0, hr1⟩
        · have HR := Lib.hid hr1
          clear hr1
          go_wp2_with fail
          go_roundw
          case rel => exact ⟨k + 1, r, by omega, by go_num, rfl, hr0, by have := HR.out; have := HQ.out; have := HCT.out; omega, hg.trans0 hg2⟩
          case measure => simp [intOf]; omega
        · subst hr0
          go_wp2_with fail
          go_ret
          exact ⟨-1, rfl, .inr ⟨rfl, by have := HQ.out; have := HCT.out; omega⟩, hg.trans0 hg2⟩
      · have hf : l.take k = l := List.take_of_length_le (by omega)
        have hq3 := HQ.out
        rw [hf] at hq3
        have HQ3 := Lib.hid hq3
        clear hq3 hf
        go_wp2
        go_ret
        exact ⟨q, rfl, .inl ⟨hq0, by have := HQ3.out; omega⟩, hg⟩
set_option maxRecDepth 100000 in
set_option maxHeartbeats 1000000 in
theorem sz_step (n : Nat) (hA : SzSC n) : SzC (n + 1) := by
  intro s at' ae ct ce left w hn h0 h1 hT hE ht he
  obtain ⟨op, x, y, nn, t, e⟩ := s
  simp only [St.thn, St.els, St.op, St.x, St.y, St.n, St.inner] at *
  have HA := Lib.hid hA
  clear hA
  have hg0 : ∀ o, Gr w (w.alloc o) none := fun o => (Gr.refl _ _).alloc _
  go_enter Try.func89, Try.ntmps89
  go_wp2_with fail
  refine (HA.out t at' ct left _ (by omega) h0 h1 ht (hT.gr0 (hg0 _))).mono ?_
  rintro e' w1 ⟨r, rfl, hr, hg1⟩
  have q5 : w1.cell? ⟨w.heap.size, 5, none⟩ = some (.slice ae e.length ce) := hg1.cell (p := ⟨w.heap.size, 5, none⟩) (cell?_new6 _ _).2 (by simp)
  rcases hr with ⟨hr0, hr1⟩ | ⟨hr0, hr1⟩
  · have hr2 : r ≤ 1048576 := by omega
    have HR := Lib.hid hr1
    clear hr1
    go_wp2_with fail
    refine (HA.out e ae ce r _ (by omega) hr0 hr2 he ((hE.gr0 (hg0 _)).gr0 hg1)).mono ?_
    rintro e' w2 ⟨r2, rfl, hr3, hg2⟩
    rcases hr3 with ⟨hr4, hr5⟩ | ⟨hr4, hr5⟩
    · have HR2 := Lib.hid hr5
      clear hr5
      go_wp2_with fail
      go_ret
      exact ⟨r2, rfl, .inl ⟨hr4, by have := HR.out; have := HR2.out; omega⟩, ((hg0 _).trans0 hg1).trans0 hg2⟩
    · subst hr4
      go_wp2_with fail
      go_ret
      exact ⟨-1, rfl, .inr ⟨rfl, by have := HR.out; omega⟩, ((hg0 _).trans0 hg1).trans0 hg2⟩
  · subst hr0
    go_wp2_with fail
    go_ret
    exact ⟨-1, rfl, .inr ⟨rfl, by omega⟩, (hg0 _).trans0 hg1⟩
theorem sz_all : ∀ n, SzC n ∧ SzSC n
  | 0 => ⟨fun s _ _ _ _ _ _ h => absurd h (by omega), szs_step 0 (fun s _ _ _ _ _ _ h => absurd h (by omega))⟩
  | n + 1 => ⟨sz_step n (sz_all n).2, szs_step (n + 1) (sz_step n (sz_all n).2)⟩
def Pr.size (p : Pr) : Nat := p.types.length + St.count p.body
set_option maxHeartbeats 1000000 in
theorem szProgram_any (p : Pr) (at' ab : Option Addr) (ct cb : Nat) (w : World) (hB : SlAt w Any p.body ab) (hlt : p.types.length ≤ maxLen) (hlb : p.body.length ≤ maxLen) :
    Calls Try.prog 15 #[.agg #[.slice at' p.types.length ct, .slice ab p.body.length cb], .int .i64 1048576] w (Sized p.size 1048576 w) := by
  have hg0 : ∀ o, Gr w (w.alloc o) none := fun o => (Gr.refl _ _).alloc _
  go_enter Try.func15, Try.ntmps15
  go_wp2_with fail
  refine (szIntS_any p.types at' ct 1048576 _ (by omega) (by omega) hlt).mono ?_
  rintro e' w1 ⟨r, rfl, hr, hg1⟩
  have q5 : w1.cell? ⟨w.heap.size, 1, none⟩ = some (.slice ab p.body.length cb) := hg1.cell (p := ⟨w.heap.size, 1, none⟩) (cell?_new2 _ _).2 (by simp)
  rcases hr with ⟨hr0, hr1⟩ | ⟨hr0, hr1⟩
  · have hr2 : r ≤ 1048576 := by omega
    have HR := Lib.hid hr1
    clear hr1
    go_wp2_with fail
    refine ((sz_all _).2 p.body ab cb r _ (Nat.le_refl _) hr0 hr2 hlb ((hB.gr0 (hg0 _)).gr0 hg1)).mono ?_
    rintro e' w2 ⟨r2, rfl, hr3, hg2⟩
    rcases hr3 with ⟨hr4, hr5⟩ | ⟨hr4, hr5⟩
    · have HR2 := Lib.hid hr5
      clear hr5
      go_wp2_with fail
      go_ret
      exact ⟨r2, rfl, .inl ⟨hr4, by have := HR.out; have := HR2.out; simp only [Pr.size]; omega⟩, ((hg0 _).trans0 hg1).trans0 hg2⟩
    · subst hr4
      go_wp2_with fail
      go_ret
      exact ⟨-1, rfl, .inr ⟨rfl, by have := HR.out; simp only [Pr.size]; omega⟩, ((hg0 _).trans0 hg1).trans0 hg2⟩
  · subst hr0
    go_wp2_with fail
    go_ret
    exact ⟨-1, rfl, .inr ⟨rfl, by simp only [Pr.size]; omega⟩, (hg0 _).trans0 hg1⟩
end Go.Proofs.Ytjlnfmiekmliaaa
