/- Walks of the laws' own helpers on lists of Access: equality, marks, looks. -/
import Derived.Test.YtadlnjglpigjmaaMB

namespace Go.Proofs.Ytadlnjglpigjmaa

open Go.RowKit

/-- The rows are those of Access. -/
def IsAccess (L : List (List Value)) : Prop := ∀ r ∈ L, ∃ (x0 : Int) (x1 : Bool), r = [.int .i64 x0, .bool x1]
theorem eqAccess_any (x0 : Int) (x1 : Bool) (w : World) : Calls Try.prog 89 #[.agg #[.int .i64 x0, .bool x1], .agg #[.int .i64 x0, .bool x1]] w fun e w' => e = .returned (.bool true) ∧ Gr w w' none := by
  go_enter Try.func89, Try.ntmps89
  go_wp2
  go_ret
  exact ⟨rfl, ((Gr.refl _ _).alloc _).alloc _⟩
set_option maxRecDepth 100000 in
set_option maxHeartbeats 1000000 in
theorem eqAccessS_any (L : List (List Value)) (hK : IsAccess L) (a b : Option Addr) (c c' : Nat) (w : World) (ha : RowsAt 2 w Any L a) (hb : RowsAt 2 w Any L b) (hl : L.length ≤ 1048576) :
    Calls Try.prog 50 #[.slice a L.length c, .slice b L.length c'] w fun e w' => e = .returned (.bool true) ∧ Gr w w' none := by
  have HK := Lib.hid hK
  clear hK
  go_enter Try.func50, Try.ntmps50
  go_wp2
  go_loopw [5] (fun i wr => ∃ k : Nat, k ≤ L.length ∧ i = .int .i64 k ∧ Gr w wr none) (fun i _ => L.length - (intOf i).toNat)
  case atStart => exact ⟨0, Nat.zero_le _, rfl, Gr.refl _ _⟩
  case round =>
    obtain ⟨k, hk, rfl, hg⟩ := hrel
    by_cases hlt : k < L.length
    · obtain ⟨b1, o1, rfl, _, h1⟩ := (ha.gr0 hg) k hlt
      obtain ⟨b2, o2, rfl, _, h2⟩ := (hb.gr0 hg) k hlt
      obtain ⟨x0, x1, er⟩ := HK.out L[k] (List.getElem_mem hlt)
      rw [er] at h1 h2
      have c0 : wr.cell? ⟨b1, o1 + k * 2, none⟩ = some (.int .i64 x0) := h1 0 _ rfl
      have c1 : wr.cell? ⟨b1, o1 + k * 2 + 1, none⟩ = some (.bool x1) := h1 1 _ rfl
      have d0 : wr.cell? ⟨b2, o2 + k * 2, none⟩ = some (.int .i64 x0) := h2 0 _ rfl
      have d1 : wr.cell? ⟨b2, o2 + k * 2 + 1, none⟩ = some (.bool x1) := h2 1 _ rfl
      clear h1 h2 er
      go_wp2_with fail
      go_region_with (go_at_call 89; refine (eqAccess_any x0 x1 _).mono ?_; rintro e w' ⟨rfl, hg2⟩)
      all_goals
        go_wp2_with fail
        go_roundw
        case rel => exact ⟨k + 1, by omega, by go_num, hg.drew.trans0 hg2⟩
        case measure => simp [intOf]; omega
    · go_wp2
      go_ret
      exact ⟨rfl, hg⟩

/-- What the marks are, in row i. -/
def mkAccess (k : Int) (i : Nat) : List Value := [.int .i64 (k + 2 * (i : Nat)), .bool ((k + 2 * (i : Nat) + 1) % 3 == 0)]
/-- Rows of this kind lie there, in blocks D. -/
def AtAccess (w : World) (D : Nat → Prop) (n : Nat) (a : Option Addr) : Prop := ∀ i, i < n → ∃ b off, a = some ⟨b, off, none⟩ ∧ D b ∧ ∃ (x0 : Int) (x1 : Bool), w.cell? ⟨b, off + i * 2, none⟩ = some (.int .i64 x0) ∧ w.cell? ⟨b, off + i * 2 + 1, none⟩ = some (.bool x1)
theorem RowsAt.atAccess {w : World} {D : Nat → Nat → Prop} {P : Nat → Prop} {L : List (List Value)} {a : Option Addr} (h : RowsAt 2 w D L a) (hK : IsAccess L) (hD : ∀ b o, D b o → P b) : AtAccess w P L.length a := by
  intro i hi
  obtain ⟨b, off, e, hd, hv⟩ := h i hi
  obtain ⟨x0, x1, er⟩ := hK L[i] (List.getElem_mem hi)
  rw [er] at hv
  exact ⟨b, off, e, hD _ _ hd, x0, x1, hv 0 _ rfl, hv 1 _ rfl⟩
theorem AtAccess.gr {w w' : World} {P : Nat → Prop} {n : Nat} {a : Option Addr} (h : AtAccess w P n a) (hg : Gr w w' none) : AtAccess w' P n a := by
  intro i hi
  obtain ⟨b, off, e, hd, x0, x1, c0, c1⟩ := h i hi
  exact ⟨b, off, e, hd, x0, x1, hg.cell c0 (by simp), hg.cell c1 (by simp)⟩
/-- The marked rows lie there. -/
def MkAccess (w : World) (D : Nat → Prop) (k : Int) (n : Nat) (a : Option Addr) : Prop := ∀ i, i < n → ∃ b off, a = some ⟨b, off, none⟩ ∧ D b ∧ ∀ j v, (mkAccess k i)[j]? = some v → w.cell? ⟨b, off + i * 2 + j, none⟩ = some v
theorem MkAccess.gr {w w' : World} {P : Nat → Prop} {k : Int} {n : Nat} {a : Option Addr} (h : MkAccess w P k n a) (hg : Gr w w' none) : MkAccess w' P k n a := by
  intro i hi
  obtain ⟨b, off, e, hd, hv⟩ := h i hi
  exact ⟨b, off, e, hd, fun j v hj => hg.cell (hv j v hj) (by simp)⟩
def MarkedAccess (P : Nat → Prop) (n : Nat) (a : Option Addr) (k : Int) (w : World) (e : Ending) (w' : World) : Prop :=
  e = .returned (.int .i64 (k + 2 * (n : Nat))) ∧ Wr P w w' ∧ MkAccess w' P k n a
def setAccess (w : World) (b o : Nat) (y0 y1 : Value) : World := ((w.setCell ⟨b, o, none⟩ y0).setCell ⟨b, o + 1, none⟩ y1)
theorem wrAccess {w : World} {P : Nat → Prop} {b o : Nat} {y0 y1 z0 z1 : Value} (hp : P b) (c0 : w.cell? ⟨b, o, none⟩ = some y0) (c1 : w.cell? ⟨b, o + 1, none⟩ = some y1) (l0 : Like y0 z0) (l1 : Like y1 z1) : Wr P w (setAccess w b o z0 z1) := by
  have h0 : Wr P w (w.setCell ⟨b, o, none⟩ z0) := Wr.set hp c0 l0
  obtain ⟨_, e1, m1⟩ := h0.like _ _ c1
  have h1 := h0.trans (Wr.set (u := z1) hp e1 (like_same m1 l1))
  exact h1
theorem setAccess_at {w : World} {b o : Nat} {y0 y1 : Value} (h : ∀ j, j < 2 → (w.cell? ⟨b, o + j, none⟩).isSome = true) : ∀ j v, [y0, y1][j]? = some v → (setAccess w b o y0 y1).cell? ⟨b, o + j, none⟩ = some v := by
  intro j v hj
  have hlt := (List.getElem?_eq_some_iff.1 hj).1
  unfold setAccess
  match j, hlt with
  | 0, _ => simp at hj; subst hj; rw [World.cell?_setCell_other _ _ _ _ (by simp)]; refine World.cell?_setCell_same' _ _ _ ?_; exact h 0 (by omega)
  | 1, _ => simp at hj; subst hj; refine World.cell?_setCell_same' _ _ _ ?_; rw [World.cell?_setCell_other _ _ _ _ (by simp)]; exact h 1 (by omega)
theorem setAccess_off {w : World} {b o : Nat} {y0 y1 : Value} {x : Addr} (h : x.block = b → x.spot = none → x.off < o ∨ o + 2 ≤ x.off) : (setAccess w b o y0 y1).cell? x = w.cell? x := by
  unfold setAccess
  obtain ⟨xb, xo, xs⟩ := x
  simp only at h
  rw [World.cell?_setCell_other _ _ _ _ (by intro e; cases e; have := h rfl rfl; omega)]
  rw [World.cell?_setCell_other _ _ _ _ (by intro e; cases e; have := h rfl rfl; omega)]
set_option maxRecDepth 100000 in
set_option maxHeartbeats 2000000 in
theorem markAccessS_any (P : Nat → Prop) (n : Nat) (a : Option Addr) (c : Nat) (k : Int) (w : World) (h : AtAccess w P n a) (hf : ∀ a : Addr, P a.block → w.frozen? a = false) (hn : n ≤ 1048576) (hk0 : 0 ≤ k) (hk : k ≤ 1099511627776) :
    Calls Try.prog 51 #[.slice a n c, .int .i64 k] w (MarkedAccess P n a k w) := by
  go_enter Try.func51, Try.ntmps51
  go_wp2
  go_loopw [1, 5] (fun k' i wr => ∃ j : Nat, j ≤ n ∧ i = .int .i64 j ∧ k' = .int .i64 (k + 2 * (j : Nat)) ∧ Wr P w wr ∧ MkAccess wr P k j a) (fun _ i _ => n - (intOf i).toNat)
  case atStart => exact ⟨0, Nat.zero_le _, rfl, by simp, Wr.refl _ _, fun i hi => absurd hi (by omega)⟩
  case round =>
    obtain ⟨j, hj, rfl, rfl, hW, hall⟩ := hrel
    have HA := Lib.hid hall
    clear hall
    by_cases hlt : j < n
    · obtain ⟨b, off, rfl, hp, x0, x1, c0, c1⟩ := h j hlt
      obtain ⟨y0, d0⟩ := hW.int c0
      obtain ⟨y1, d1⟩ := hW.boolc c1
      have hfz : ∀ o, wr.frozen? ⟨b, o, none⟩ = false := fun o => by rw [hW.frz]; exact hf ⟨b, o, none⟩ hp
      have HF := Lib.hid hf
      clear c0 c1 hf
      go_wp2_with fail
      go_roundw
      case rel =>
        have hS : Wr P wr (setAccess wr b (off + j * 2) (.int .i64 (k + 2 * (j : Nat))) (.bool ((k + 2 * (j : Nat) + 1) % 3 == 0))) := wrAccess hp d0 d1 ⟨_, rfl⟩ ⟨_, rfl⟩
        refine ⟨j + 1, by omega, by go_num, by go_num, hW.trans hS, fun i hi => ⟨b, off, rfl, hp, ?_⟩⟩
        by_cases e : i = j
        · subst e
          exact setAccess_at (fun t ht => by
            match t, ht with
            | 0, _ => rw [show off + i * 2 + 0 = off + i * 2 from rfl, d0]; rfl
            | 1, _ => rw [show off + i * 2 + 1 = off + i * 2 + 1 from rfl, d1]; rfl)
        · intro t v ht
          obtain ⟨b', off', e', _, hc'⟩ := HA.out i (by omega)
          cases e'
          have hlt2 := (List.getElem?_eq_some_iff.1 ht).1
          simp only [mkAccess, List.length_cons, List.length_nil] at hlt2
          have hij : i < j := by omega
          exact (setAccess_off (by intro _ _; left; show off + i * 2 + t < off + j * 2; omega)).trans (hc' t v ht)
      case measure => simp [intOf]; omega
    · obtain rfl : j = n := by omega
      go_wp2
      go_ret
      exact ⟨rfl, hW, HA.out⟩
set_option maxRecDepth 100000 in
set_option maxHeartbeats 2000000 in
theorem heldAccessS_any (D : Nat → Prop) (n : Nat) (a : Option Addr) (c : Nat) (k : Int) (w : World) (h : MkAccess w D k n a) (hn : n ≤ 1048576) (hk0 : 0 ≤ k) (hk : k ≤ 1099511627776) :
    Calls Try.prog 52 #[.slice a n c, .int .i64 k] w fun e w' => e = .returned (.int .i64 (k + 2 * (n : Nat))) ∧ w = w' := by
  go_enter Try.func52, Try.ntmps52
  go_wp2
  go_loop [1, 5] (fun k' i => ∃ j : Nat, j ≤ n ∧ i = .int .i64 j ∧ k' = .int .i64 (k + 2 * (j : Nat))) (fun _ i => n - (intOf i).toNat)
  case atStart => exact ⟨0, Nat.zero_le _, rfl, by simp⟩
  case round =>
    obtain ⟨j, hj, rfl, rfl⟩ := hrel
    by_cases hlt : j < n
    · obtain ⟨b, off, rfl, _, hc⟩ := h j hlt
      have c0 : w.cell? ⟨b, off + j * 2, none⟩ = some (.int .i64 (k + 2 * (j : Nat))) := hc 0 _ rfl
      have c1 : w.cell? ⟨b, off + j * 2 + 1, none⟩ = some (.bool ((k + 2 * (j : Nat) + 1) % 3 == 0)) := hc 1 _ rfl
      clear hc h
      go_wp2_with fail
      go_round
      case rel => exact ⟨j + 1, by omega, by go_num, by go_num⟩
      case measure => simp [intOf]; omega
    · obtain rfl : j = n := by omega
      go_wp2
      go_ret
      exact ⟨rfl, rfl⟩
end Go.Proofs.Ytadlnjglpigjmaa
