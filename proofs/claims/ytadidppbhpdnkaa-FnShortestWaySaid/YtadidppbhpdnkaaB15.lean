/- Walks of drawn arguments, weakly: some program in new memory, and some numbers. -/
import Derived.Test.YtadidppbhpdnkaaB14

namespace Go.Proofs.Ytadidppbhpdnkaa

open Go.RowKit

/-- A program was drawn. -/
def PrAt (w w' : World) (p : Pr) (v0 v1 : Value) : Prop := ∃ (at' ab : Option Addr) (ct cb : Nat), v0 = .slice at' p.types.length ct ∧ v1 = .slice ab p.body.length cb ∧ InAt w' (New w.heap.size) p.types at' ∧ SlAt w' (New w.heap.size) p.body ab ∧ p.types.length ≤ 7 ∧ St.count p.body ≤ 4000
def Drawn0 (w : World) (e : Ending) (w' : World) : Prop := ∃ (p : Pr) (v0 v1 : Value), e = .returned (.agg #[v0, v1]) ∧ PrAt w w' p v0 v1 ∧ Gr w w' none
/-- A program and a number were drawn. -/
def Drawn1 (w : World) (e : Ending) (w' : World) : Prop := ∃ (p : Pr) (v0 v1 : Value) (n : Int), e = .returned (.tuple #[.agg #[v0, v1], .int .i64 n]) ∧ PrAt w w' p v0 v1 ∧ -1000000 ≤ n ∧ n ≤ 1000000 ∧ Gr w w' none
/-- A program and two numbers were drawn. -/
def Drawn2 (w : World) (e : Ending) (w' : World) : Prop := ∃ (p : Pr) (v0 v1 : Value) (n m : Int), e = .returned (.tuple #[.agg #[v0, v1], .int .i64 n, .int .i64 m]) ∧ PrAt w w' p v0 v1 ∧ -1000000 ≤ n ∧ n ≤ 1000000 ∧ -1000000 ≤ m ∧ m ≤ 1000000 ∧ Gr w w' none
theorem PrAt.put {w u : World} {p : Pr} {x0 x1 v0 v1 : Value} {b n : Nat} {at' ab : Option Addr} {ct cb : Nat} (hw : w.heap.size ≤ b) (hn : b < n) (hT : InAt u (New n) p.types at') (hB : SlAt u (New n) p.body ab) (h6 : p.types.length ≤ 7) (hc : St.count p.body ≤ 4000) (e0 : v0 = .slice at' p.types.length ct) (e1 : v1 = .slice ab p.body.length cb) : PrAt w (put2 u b x0 x1) p v0 v1 :=
  ⟨at', ab, ct, cb, e0, e1, (InAt.put2 hT hn).mono (fun k _ hk => by unfold New at *; omega) (fun _ _ _ _ h => h), (SlAt.put2 hB hn).sub fun k _ hk => by unfold New at *; omega, h6, hc⟩
theorem branch_ret {R : Ending → World → Prop} {tmps : Array Value} {u : World} {b : Nat} {x0 x1 : Value} (hz : Zp u b x0 x1) {v0 v1 : Value} (ht : tmps.getD 2 undef = .pointer (some ⟨b, 0, none⟩)) (h : R (.returned (.agg #[v0, v1])) (put2 u b v0 v1)) :
    bodyPost Try.prog Try.f53 R .ret { tmps := tmps, defers := [] } (put2 u b v0 v1) := by
  obtain ⟨c0, c1⟩ := hz.put2 v0 v1
  generalize put2 u b v0 v1 = W at *
  have ht' : tmps[2]?.getD undef = .pointer (some ⟨b, 0, none⟩) := by simpa using ht
  refine bodyPost_ret (v := .agg #[v0, v1]) ?_ rfl h
  simp [results, Try.results53, go_sem, ht', c0, c1]
set_option maxRecDepth 100000 in
set_option maxHeartbeats 4000000 in
theorem l2Branch_any (rb P : Nat) (w : World) (hR : Rd w rb P) (hP : P ≤ 4000) : Calls Try.prog 53 #[.pointer (some ⟨rb, 0, none⟩)] w (DrawR rb P 500 7 4000 w) := by
  have hrb := hR.lt
  have hZ := Zp.new w (.slice none 0 0) (.slice none 0 0) 26
  have hA : Gr w (w.alloc (.cells #[.slice none 0 0, .slice none 0 0] 26)) (some rb) := (Gr.refl _ _).alloc _
  have hR0 := hR.gr0 ((Gr.refl _ none).alloc (.cells #[.slice none 0 0, .slice none 0 0] 26))
  go_enter Try.func53, Try.ntmps53
  go_wp2_with fail
  refine (l1Texts_any _).mono ?_
  rintro e w1 ⟨g, rfl, hS, hgb, hg1⟩
  have hZ1 := hZ.gr hg1 (by simp)
  have hG1 := hA.trans0 hg1
  have hR1 := hR0.gr0 hg1
  have hgb' : w.heap.size < g := by simp at hgb; omega
  clear hZ hA hR0 hR hg1 hgb
  go_wp2_with fail
  refine (pick_any rb P 2 _ hR1 (by omega) (by omega) (by omega)).mono ?_
  rintro e w2 ⟨v1, rfl, hv1, hv1', hg2, hr2⟩
  have hb1 : v1 < 2 := hv1' (by omega)
  have hS2 := hS.gr hg2 (by simp; omega)
  have hZ2 := hZ1.gr hg2 (by simp; omega)
  have hG2 := hG1.trans hg2 (fun r e => .inl e)
  have hlt2 := hZ2.lt
  clear hS hZ1 hG1 hR1 hg2 hv1'
  by_cases h0 : v1 = 0
  · subst h0
    go_wp2_with fail
    refine (pick_any rb (P + 1) 8 _ hr2 (by omega) (by omega) (by omega)).mono ?_
    rintro e w3 ⟨v2, rfl, hv2, hv2', hg3, hr3⟩
    have hb2 : v2 < 8 := hv2' (by omega)
    obtain ⟨k2, rfl⟩ : ∃ k2 : Nat, v2 = k2 := ⟨v2.toNat, by omega⟩
    obtain ⟨s, hc, hs⟩ := (hS2.gr hg3 (by simp; omega)) (9 + k2) (by omega)
    have hZ3 := hZ2.gr hg3 (by simp; omega)
    have hG3 := hG2.trans hg3 (fun r e => .inl e)
    have hw9 : IntKind.i64.wrap (9 + (k2 : Int)) = ((9 + k2 : Nat) : Int) := by rw [show 9 + (k2 : Int) = ((9 + k2 : Nat) : Int) from by omega]; exact IntWalk.i64_in _ (by omega)
    have hlt9 : 9 + k2 < 25 := by omega
    clear hS2 hZ2 hG2 hg3 hv2' hr2
    go_wp2_with fail
    refine (parseProgram_any s _ (by omega)).mono ?_
    rintro e w4 ⟨p, a4, b4, c4, d4, bb, rfl, hT4, hB4, ht4, hc4, hg4⟩
    have HZ4 := Lib.hid (hZ3.gr hg4 (by simp))
    have HG4 := Lib.hid (hG3.trans0 hg4)
    have HR4 := Lib.hid (hr3.gr0 hg4)
    have hs4 : w3.heap.size ≤ w4.heap.size := hg4.size
    have hlt3 : rb < w3.heap.size := hr3.lt
    have HT4 := Lib.hid hT4
    have HB4 := Lib.hid hB4
    have HH4 := Lib.hid (show p.types.length ≤ 6 ∧ St.count p.body ≤ 30 from ⟨ht4, hc4⟩)
    clear hT4 hB4 ht4 hc4 hg4 hZ3 hG3 hr3 hs hc hw9
    go_wp2_with fail
    obtain ⟨wA, hwA⟩ : ∃ wA : World, wA = w4.alloc (.cells #[.slice a4 p.types.length c4, .slice b4 p.body.length d4] 26) := ⟨_, rfl⟩
    have hgA : Gr w4 wA none := by rw [hwA]; exact (Gr.refl _ _).alloc _
    rw [← hwA]
    refine (l1Mutate_any rb (P + 1 + 1) p a4 b4 c4 d4 wA (HR4.out.gr0 hgA) (by omega) ((HT4.out.gr0 hgA).mono (fun _ _ _ => trivial) (fun _ _ _ _ h => h)) ((HB4.out.gr0 hgA).sub fun _ _ _ => trivial) HH4.out.1 (by have := HH4.out.2; omega)).mono ?_
    rintro e w5 ⟨p', a5, b5, c5, d5, rfl, hT5, hB5, ht5, hc5, hg5, hr5⟩
    have hs5 : w4.heap.size ≤ wA.heap.size := hgA.size
    have HZ5 := Lib.hid ((HZ4.out.gr hgA (by simp)).gr hg5 (by simp; omega))
    have HG5 := Lib.hid ((HG4.out.trans0 hgA).trans hg5 (fun r e => .inl e))
    clear hwA hgA
    obtain ⟨z0, z1, zf⟩ := HZ5.out
    have hlz := HZ4.out.lt
    go_wp2_with fail
    (try simp only [Exit.inBlock, Exit.then])
    refine branch_ret (b := w.heap.size) HZ5.out rfl ?_
    exact ⟨p', a5, b5, c5, d5, rfl, hT5.put2 (by omega), hB5.put2 (by omega), ht5, hc5, HG5.out.trans (put2_own _ _ _ _) (fun r e => .inr (by cases e; exact Nat.le_refl _)), (hr5.far (put2_own _ _ _ _) (fun r e => by cases e; exact hrb)).mono (by omega)⟩
  · go_wp2_with fail
    refine (l1Draw_any rb (P + 1) _ hr2 (by omega)).mono ?_
    rintro e w4 ⟨p, a4, b4, c4, d4, rfl, hT4, hB4, ht4, hc4, hg4, hr4⟩
    have HZ4 := Lib.hid (hZ2.gr hg4 (by simp; omega))
    have HG4 := Lib.hid (hG2.trans hg4 (fun r e => .inl e))
    have hs4 : w2.heap.size ≤ w4.heap.size := hg4.size
    clear hg4 hZ2 hG2 hr2 hS2
    go_wp2_with fail
    refine (l1Mutate_any rb (P + 1 + 400) p a4 b4 c4 d4 w4 hr4 (by omega) (hT4.mono (fun _ _ _ => trivial) (fun _ _ _ _ h => h)) (hB4.sub fun _ _ _ => trivial) ht4 hc4).mono ?_
    rintro e w5 ⟨p', a5, b5, c5, d5, rfl, hT5, hB5, ht5, hc5, hg5, hr5⟩
    have HZ5 := Lib.hid (HZ4.out.gr hg5 (by simp; omega))
    have HG5 := Lib.hid (HG4.out.trans hg5 (fun r e => .inl e))
    obtain ⟨z0, z1, zf⟩ := HZ5.out
    go_wp2_with fail
    (try simp only [Exit.inBlock, Exit.then])
    refine branch_ret (b := w.heap.size) HZ5.out rfl ?_
    exact ⟨p', a5, b5, c5, d5, rfl, hT5.put2 (by omega), hB5.put2 (by omega), ht5, hc5, HG5.out.trans (put2_own _ _ _ _) (fun r e => .inr (by cases e; exact Nat.le_refl _)), (hr5.far (put2_own _ _ _ _) (fun r e => by cases e; exact hrb)).mono (by omega)⟩
end Go.Proofs.Ytadidppbhpdnkaa
