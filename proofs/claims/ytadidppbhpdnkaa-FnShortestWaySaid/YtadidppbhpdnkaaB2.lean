/- Walks of the draws' reader of bytes: each pick is a number in its range. -/
import Derived.Test.YtadidppbhpdnkaaB1

import Derived.IntWalk

import Derived.Deep.RegionWith

import Derived.Deep.DeepCutAuto

namespace Go.Proofs.Ytadidppbhpdnkaa

open Go.RowKit

/-- n bytes may be read from a on, in a block before rb. -/
def BytesAt (w : World) (rb : Nat) (a : Option Addr) (n : Nat) : Prop := ∀ i, i < n → ∃ (b off x : Nat), a = some ⟨b, off, none⟩ ∧ b < rb ∧ w.cell? ⟨b, off + i, none⟩ = some (.int .u8 x) ∧ x ≤ 255
theorem BytesAt.gr {w w' : World} {rb : Nat} {a : Option Addr} {n : Nat} (h : BytesAt w rb a n) (hg : Gr w w' (some rb)) : BytesAt w' rb a n := by
  intro i hi
  obtain ⟨b, off, x, e, hb, hc, hx⟩ := h i hi
  exact ⟨b, off, x, e, hb, hg.cell hc (by simp; omega), hx⟩
/-- The reader lies in block rb; at most P picks have been made. -/
def Rd (w : World) (rb P : Nat) : Prop := ∃ (a : Option Addr) (n c p : Nat), w.cell? ⟨rb, 0, none⟩ = some (.slice a n c) ∧ w.cell? ⟨rb, 1, none⟩ = some (.int .i64 p) ∧ w.frozen? ⟨rb, 1, none⟩ = false ∧ n ≤ 2000 ∧ BytesAt w rb a n ∧ p ≤ P
theorem Rd.gr0 {w w' : World} {rb P : Nat} (h : Rd w rb P) (hg : Gr w w' none) : Rd w' rb P := by
  obtain ⟨a, n, c, p, c0, c1, hf, hn, hb, hp⟩ := h
  exact ⟨a, n, c, p, hg.cell c0 (by simp), hg.cell c1 (by simp), (hg.frozen (lt_of_cell c1) (by simp)).trans hf, hn, hb.gr hg.weaken, hp⟩
theorem Rd.far {w w' : World} {rb P : Nat} {row : Option Nat} (h : Rd w rb P) (hg : Gr w w' row) (hr : ∀ r, row = some r → rb < r) : Rd w' rb P := by
  obtain ⟨a, n, c, p, c0, c1, hf, hn, hb, hp⟩ := h
  have hne : ∀ k, k ≤ rb → row ≠ some k := fun k hk e => by have := hr k e; omega
  refine ⟨a, n, c, p, hg.cell c0 (hne rb (Nat.le_refl _)), hg.cell c1 (hne rb (Nat.le_refl _)), (hg.frozen (lt_of_cell c1) (hne rb (Nat.le_refl _))).trans hf, hn, fun i hi => ?_, hp⟩
  obtain ⟨b, off, x, e, hlt, hc, hx⟩ := hb i hi
  exact ⟨b, off, x, e, hlt, hg.cell hc (hne b (by omega)), hx⟩
theorem Rd.mono {w : World} {rb P Q : Nat} (h : Rd w rb P) (hq : P ≤ Q) : Rd w rb Q := by
  obtain ⟨a, n, c, p, c0, c1, hf, hn, hb, hp⟩ := h
  exact ⟨a, n, c, p, c0, c1, hf, hn, hb, by omega⟩
theorem Rd.lt {w : World} {rb P : Nat} (h : Rd w rb P) : rb < w.heap.size := by
  obtain ⟨a, n, c, p, c0, _⟩ := h; exact lt_of_cell c0
/-- What a pick leaves. -/
def Picked (rb P : Nat) (n : Int) (w : World) (e : Ending) (w' : World) : Prop := ∃ v : Int, e = .returned (.int .i64 v) ∧ 0 ≤ v ∧ (1 ≤ n → v < n) ∧ Gr w w' (some rb) ∧ Rd w' rb (P + 1)
theorem xor_nat (x y : Nat) (hx : x < 2 ^ 40) (hy : y < 2 ^ 40) : ∃ z : Nat, bits BinOp.xor IntKind.i64 (x : Int) (y : Int) = z := by
  have h1 : (BitVec.ofInt 64 (x : Int) ^^^ BitVec.ofInt 64 (y : Int)).toNat = x ^^^ y := by
    rw [BitVec.toNat_xor]
    have e1 : (BitVec.ofInt 64 (x : Int)).toNat = x := by simp; omega
    have e2 : (BitVec.ofInt 64 (y : Int)).toNat = y := by simp; omega
    rw [e1, e2]
  have h2 := Nat.xor_lt_two_pow hx hy
  refine ⟨x ^^^ y, ?_⟩
  show IntKind.i64.wrap (((BitVec.ofInt 64 (x : Int) ^^^ BitVec.ofInt 64 (y : Int)).toNat : Nat) : Int) = _
  rw [h1]
  exact IntWalk.i64_in _ (by omega)
set_option maxRecDepth 100000 in
set_option maxHeartbeats 4000000 in
theorem pick_any (rb P : Nat) (n : Int) (w : World) (h : Rd w rb P) (hP : P ≤ 1000000) (hn : n ≤ 1000000) (hn0 : -1000000 ≤ n) :
    Calls Try.prog 75 #[.pointer (some ⟨rb, 0, none⟩), .int .i64 n] w (Picked rb P n w) := by
  obtain ⟨a, m, c, p, c0, c1, hf, hm, hb, hp⟩ := h
  have hs : Gr w (w.setCell ⟨rb, 1, none⟩ (.int .i64 ((p : Int) + 1))) (some rb) := own_set _ _ _ _
  have hR : Rd (w.setCell ⟨rb, 1, none⟩ (.int .i64 ((p : Int) + 1))) rb (P + 1) :=
    ⟨a, m, c, p + 1, by rw [World.cell?_setCell_other _ _ _ _ (by simp)]; exact c0, World.cell?_setCell_same _ _ _ c1, by rw [World.frozen?_setCell]; exact hf, hm, hb.gr hs, by omega⟩
  have HR := Lib.hid hR
  have HS := Lib.hid hs
  have HB := Lib.hid hb
  have hpb : (0 : Int) ≤ (p : Int) := by omega
  clear hR hs hb
  by_cases h1 : n < 1
  · go_enter Try.func75, Try.ntmps75
    go_wp2
    go_ret
    exact ⟨0, rfl, by omega, by omega, HS.out, HR.out⟩
  · by_cases h0 : m = 0
    · subst h0
      go_enter Try.func75, Try.ntmps75
      go_wp2
      go_ret
      exact ⟨0, rfl, by omega, by omega, HS.out, HR.out⟩
    · by_cases hk : p < m
      · obtain ⟨b, off, x, rfl, hbr, hc, hx⟩ := HB.out p hk
        have hne : ¬ b = rb := by omega
        have hm0 : ¬ ((m : Int) = 0) := by omega
        have hx0 : (0 : Int) ≤ (x : Int) := by omega
        have hn1 : ¬ n = 0 := by omega
        have hq1 : 0 ≤ (x : Int) % n := Int.emod_nonneg _ (by omega)
        have hq2 : (x : Int) % n < n := Int.emod_lt_of_pos _ (by omega)
        go_enter Try.func75, Try.ntmps75
        go_wp2
        go_ret
        exact ⟨_, rfl, by omega, by omega, HS.out, HR.out⟩
      · have hm0 : ¬ ((m : Int) = 0) := by omega
        have hn1 : ¬ n = 0 := by omega
        have e1 : (p : Int) % (m : Int) = ((p % m : Nat) : Int) := by simp
        have e2 : ((p : Int) * 7 + 3) % (m : Int) = (((p * 7 + 3) % m : Nat) : Int) := by simp
        have e3 : (p : Int) / (m : Int) = ((p / m : Nat) : Int) := by simp
        have l1 : p % m < m := Nat.mod_lt _ (by omega)
        have l2 : (p * 7 + 3) % m < m := Nat.mod_lt _ (by omega)
        have l3 : p / m ≤ p := Nat.div_le_self _ _
        obtain ⟨i1, hi1⟩ : ∃ i1, p % m = i1 := ⟨_, rfl⟩
        obtain ⟨i2, hi2⟩ : ∃ i2, (p * 7 + 3) % m = i2 := ⟨_, rfl⟩
        obtain ⟨i3, hi3⟩ : ∃ i3, p / m = i3 := ⟨_, rfl⟩
        rw [hi1] at e1 l1
        rw [hi2] at e2 l2
        rw [hi3] at e3 l3
        clear hi1 hi2 hi3
        obtain ⟨b, off, x, rfl, hbr, hc, hx⟩ := HB.out i1 l1
        obtain ⟨b', off', y, hab, hbr', hc', hy⟩ := HB.out i2 l2
        cases hab
        have hne : ¬ b = rb := by omega
        go_enter Try.func75, Try.ntmps75
        go_upto_region 7 with fail
        go_quiet (fail)
        go_wp2_with fail
        go_ret
        obtain ⟨z, hz⟩ := xor_nat (x * 131 + y * 1117 + p * 29 + i3 * 53) ((x * 131 + y * 1117 + p * 29 + i3 * 53) / 64) (by omega) (by omega)
        have hz' : bits BinOp.xor IntKind.i64 ((x : Int) * 131 + y * 1117 + p * 29 + i3 * 53) (((x : Int) * 131 + y * 1117 + p * 29 + i3 * 53) / 64) = z := by rw [← hz]; congr 1
        have hq : ∃ v : Int, (bits BinOp.xor IntKind.i64 ((x : Int) * 131 + y * 1117 + p * 29 + i3 * 53) (((x : Int) * 131 + y * 1117 + p * 29 + i3 * 53) / 64)).tmod n = v ∧ 0 ≤ v ∧ v < n := by
          rw [hz']; exact ⟨_, rfl, Int.tmod_nonneg _ (by omega), Int.tmod_lt_of_pos _ (by omega)⟩
        obtain ⟨v, hv, hv0, hv1⟩ := hq
        exact ⟨v, by rw [← hv]; rfl, hv0, fun _ => hv1, HS.out.drewN _, HR.out.gr0 ((Gr.refl _ _).drewN _)⟩

/-- A list of constants in a new block. -/
theorem inAt_lit (w : World) (rb : Nat) (h : rb < w.heap.size) (l : List Int) (cs : Array Value) (hc : cs.toList = l.map fun x => Value.int .i64 x) (t : TypeId) : InAt (w.alloc (.cells cs t)) (fun b _ => b ≠ rb) l (some ⟨w.heap.size, 0, none⟩) := by
  refine InAt.of fun i hi => ⟨by omega, ?_⟩
  rw [cell_of_row _ _ _ _ _ _ (heap1_0 _ _), Nat.zero_add, ← Array.getElem?_toList, hc]
  simp [hi]
theorem num_any (rb P : Nat) (l : List Int) (n : Nat) (hl : l.length = n) (a : Option Addr) (c : Nat) (w : World) (h : Rd w rb P) (hP : P ≤ 1000000) (hI : InAt w (fun b _ => b ≠ rb) l a) (h0 : 0 < n) (h1 : n ≤ 100) :
    Calls Try.prog 55 #[.pointer (some ⟨rb, 0, none⟩), .slice a n c] w fun e w' => ∃ v ∈ l, e = .returned (.int .i64 v) ∧ Gr w w' (some rb) ∧ Rd w' rb (P + 1) := by
  go_enter Try.func55, Try.ntmps55
  go_wp2_with fail
  refine (pick_any rb P n w h hP (by omega) (by omega)).mono ?_
  rintro e w1 ⟨v, rfl, hv0, hv1, hg, hr⟩
  obtain ⟨k, rfl⟩ : ∃ k : Nat, v = k := ⟨v.toNat, by omega⟩
  have hk : k < l.length := by have := hv1 (by omega); omega
  have hkn : k < n := by omega
  obtain ⟨b, off, rfl, hb, hc⟩ := (hI.gr hg (by simp; omega)).at hk
  obtain ⟨x, hx⟩ : ∃ x, l[k] = x := ⟨_, rfl⟩
  have hm : x ∈ l := by rw [← hx]; exact List.getElem_mem hk
  rw [hx] at hc
  clear hx hv1 hI
  go_wp2_with fail
  go_ret
  exact ⟨x, hm, rfl, hg, hr⟩
/-- n bytes may be read from a on. -/
def BytesIn (w : World) (a : Option Addr) (n : Nat) : Prop := ∀ i, i < n → ∃ (b off x : Nat), a = some ⟨b, off, none⟩ ∧ w.cell? ⟨b, off + i, none⟩ = some (.int .u8 x) ∧ x ≤ 255
theorem BytesIn.gr0 {w w' : World} {a : Option Addr} {n : Nat} (h : BytesIn w a n) (hg : Gr w w' none) : BytesIn w' a n := by
  intro i hi
  obtain ⟨b, off, x, e, hc, hx⟩ := h i hi
  exact ⟨b, off, x, e, hg.cell hc (by simp), hx⟩
theorem BytesIn.at {w : World} {a : Option Addr} {n m : Nat} (h : BytesIn w a n) (hm : m ≤ n) (o : Obj) : BytesAt (w.alloc o) w.heap.size a m := by
  intro i hi
  obtain ⟨b, off, x, e, hc, hx⟩ := h i (by omega)
  have := lt_of_cell hc
  exact ⟨b, off, x, e, by simp at this; omega, ((Gr.refl _ none).alloc _).cell hc (by simp), hx⟩
theorem open_any (a : Option Addr) (n c : Nat) (w : World) (h : BytesIn w a n) (hc : n ≤ c) (hn : n ≤ 100000000) :
    Calls Try.prog 52 #[.slice a n c] w fun e w' => ∃ rb, e = .returned (.pointer (some ⟨rb, 0, none⟩)) ∧ Rd w' rb 0 ∧ w.heap.size ≤ rb ∧ Gr w w' none := by
  have HB := Lib.hid h
  clear h
  have mk : ∀ m, m ≤ n → m ≤ 2000 → ∀ t, Rd (w.alloc (.cells #[.slice a m c, .int .i64 0] t)) w.heap.size 0 := by
    intro m h1 h2 t
    refine ⟨a, m, c, 0, cell_of_row _ _ _ _ _ _ (heap1_0 _ _), cell_of_row _ _ _ _ _ _ (heap1_0 _ _), ?_, h2, HB.out.at h1 _, Nat.le_refl _⟩
    exact (frozen?_alloc_cells _ _ _ _).trans (by unfold World.frozen?; rw [Array.getElem?_eq_none (Nat.le_refl _)])
  have MK := Lib.hid mk
  clear mk
  by_cases h2 : n ≤ 2000
  · go_enter Try.func52, Try.ntmps52
    go_wp2
    go_ret
    exact ⟨_, rfl, MK.out n (Nat.le_refl _) h2 _, Nat.le_refl _, (Gr.refl _ _).alloc _⟩
  · go_enter Try.func52, Try.ntmps52
    go_wp2
    go_ret
    exact ⟨_, rfl, MK.out 2000 (by omega) (Nat.le_refl _) _, Nat.le_refl _, (Gr.refl _ _).alloc _⟩
end Go.Proofs.Ytadidppbhpdnkaa
