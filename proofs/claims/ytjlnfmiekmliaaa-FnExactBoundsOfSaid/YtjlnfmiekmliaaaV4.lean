/- Walks: a whole program's check, in the reference; and that both checks say the same. -/
import Derived.Test.YtjlnfmiekmliaaaV3
namespace Go.Proofs.Ytjlnfmiekmliaaa
open Go.RowKit

set_option maxHeartbeats 400000 in
theorem l1Types_any (l : List Int) (a : Option Addr) (c : Nat) (w : World) (h : InAt w Any l a) (hl : l.length ≤ 1048576) :
    Calls Try.prog 95 #[.slice a l.length c] w fun e w' => e = .returned (.bool (typesOk l)) ∧ w = w' := by
  go_enter Try.func95, Try.ntmps95
  go_wp2
  go_loop [3] (fun i => ∃ k : Nat, k ≤ l.length ∧ i = .int .i64 k ∧ (l.take k).all okT = true) (fun i => l.length - (intOf i).toNat)
  case atStart => exact ⟨0, Nat.zero_le _, rfl, by simp⟩
  case round =>
    obtain ⟨k, hk, rfl, hall⟩ := hrel
    have HA := Lib.hid hall
    clear hall
    by_cases hlt : k < l.length
    · obtain ⟨b, off, rfl, _, hc⟩ := h.at hlt
      obtain ⟨x, ex⟩ : ∃ x, l[k] = x := ⟨_, rfl⟩
      rw [ex] at hc
      have EX := Lib.hid ex
      clear ex
      by_cases h1 : x < 1
      · go_wp2
        go_ret
        exact ⟨ret_bool (by rw [typesOk, all_at_false hlt (by rw [EX.out]; simp [okT, within]; omega)]; simp), rfl⟩
      · by_cases h2 : 4 < x
        · go_wp2
          go_ret
          exact ⟨ret_bool (by rw [typesOk, all_at_false hlt (by rw [EX.out]; simp [okT, within]; omega)]; simp), rfl⟩
        · go_wp2
          go_round
          case rel => exact ⟨k + 1, by omega, by go_num, all_take_succ hlt HA.out (by rw [EX.out]; simp [okT, within]; omega)⟩
          case measure => simp [intOf]; omega
    · have hf := all_take_all (by omega) HA.out
      have HF := Lib.hid hf
      clear hf
      go_wp2
      all_goals go_ret
      all_goals exact ⟨ret_bool (by rw [typesOk, HF.out]; simp), rfl⟩

mutual
def stS (types : List Int) : St → Int → Bool
  | .mk op x y n t e, d =>
    if op != 9 && op != 10 then (t.length : Int) == 0 && ((e.length : Int) == 0 && simpleS types op x y n)
    else if decide (d < 1) || (x != 0 || (y != 0 || (n != 0 || (op == 10 && decide (0 < (e.length : Int)))))) then false
    else bodyS types t (d - 1) && bodyS types e (d - 1)
def bodyS (types : List Int) : List St → Int → Bool
  | [], _ => true
  | s :: r, d => stS types s d && bodyS types r d
end
theorem bodyS_all (types : List Int) (d : Int) : ∀ l : List St, bodyS types l d = l.all fun s => stS types s d
  | [] => rfl
  | s :: r => by simp [bodyS, bodyS_all types d r]

/-- How the values of a statement stand in a call. -/
def StC (types : List Int) (n : Nat) : Prop := ∀ (s : St) (at' ae : Option Addr) (ct ce : Nat) (a : Option Addr) (cp : Nat) (d : Int) (w : World), s.inner + 1 ≤ n → d ≤ 4 → -10 ≤ d →
  InAt w Any types a → SlAt w Any s.thn at' → SlAt w Any s.els ae → s.thn.length ≤ maxLen → s.els.length ≤ maxLen →
  Calls Try.prog 105 #[.slice a types.length cp, .agg #[.int .i64 s.op, .int .i64 s.x, .int .i64 s.y, .int .i64 s.n, .slice at' s.thn.length ct, .slice ae s.els.length ce], .int .i64 d] w
    fun e w' => e = .returned (.bool (stS types s d)) ∧ Gr w w' none
def BodyC (types : List Int) (n : Nat) : Prop := ∀ (l : List St) (al : Option Addr) (cl : Nat) (a : Option Addr) (cp : Nat) (d : Int) (w : World), St.count l ≤ n → d ≤ 4 → -10 ≤ d → l.length ≤ maxLen →
  InAt w Any types a → SlAt w Any l al →
  Calls Try.prog 96 #[.slice a types.length cp, .slice al l.length cl, .int .i64 d] w fun e w' => e = .returned (.bool (bodyS types l d)) ∧ Gr w w' none

set_option maxRecDepth 100000 in
set_option maxHeartbeats 1000000 in
theorem body_step (types : List Int) (n : Nat) (hS : StC types n) : BodyC types n := by
  intro l al cl a cp d w hn hd hd0 hl hI hL
  have HS := Lib.hid hS
  clear hS
  unfold maxLen at hl
  go_enter Try.func96, Try.ntmps96
  go_wp2
  go_loopw [7] (fun i wr => ∃ k : Nat, k ≤ l.length ∧ i = .int .i64 k ∧ ((l.take k).all fun s => stS types s d) = true ∧ Gr w wr none) (fun i _ => l.length - (intOf i).toNat)
  case atStart => exact ⟨0, Nat.zero_le _, rfl, by simp, Gr.refl _ _⟩
  case round =>
    obtain ⟨k, hk, rfl, hall, hgr⟩ := hrel
    have HA := Lib.hid hall
    clear hall
    by_cases hlt : k < l.length
    · obtain ⟨b, off, rfl, hs⟩ := (hL.gr0 hgr).at hlt
      obtain ⟨s, es⟩ : ∃ s, l[k] = s := ⟨_, rfl⟩
      have hin := count_get hlt
      rw [es] at hs hin
      have ES := Lib.hid es
      clear es
      obtain ⟨_, ht, he, at', ct, ae, ce, c0, c1, c2, c3, c4, c5, r4, r5⟩ := hs.out
      cases hr : stS types s d with
      | false =>
        have HR := Lib.hid hr
        clear hr
        go_wp2_with fail
        refine (HS.out s at' ae ct ce a cp d _ (by omega) hd hd0 (hI.gr0 hgr) r4 r5 ht he).mono ?_
        rw [HR.out]
        rintro e w' ⟨rfl, hg2⟩
        go_wp2_with fail
        go_ret
        exact ⟨ret_bool (by rw [bodyS_all, all_at_false hlt (by rw [ES.out]; exact HR.out)]), hgr.trans0 hg2⟩
      | true =>
        have HR := Lib.hid hr
        clear hr
        go_wp2_with fail
        refine (HS.out s at' ae ct ce a cp d _ (by omega) hd hd0 (hI.gr0 hgr) r4 r5 ht he).mono ?_
        rw [HR.out]
        rintro e w' ⟨rfl, hg2⟩
        clear c0 c1 c2 c3 c4 c5 hs r4 r5
        go_wp2_with fail
        go_roundw
        case rel => exact ⟨k + 1, by omega, by go_num, all_take_succ hlt HA.out (by rw [ES.out]; exact HR.out), hgr.trans0 hg2⟩
        case measure => simp [intOf]; omega
    · have hf := all_take_all (by omega) HA.out
      have HF := Lib.hid hf
      clear hf
      go_wp2
      go_ret
      exact ⟨ret_bool (by rw [bodyS_all, HF.out]), hgr⟩

theorem cell?_new6 (w : World) {v0 v1 v2 v3 v4 v5 : Value} (t : TypeId) :
    (w.alloc (.cells #[v0, v1, v2, v3, v4, v5] t)).cell? ⟨w.heap.size, 4, none⟩ = some v4 ∧ (w.alloc (.cells #[v0, v1, v2, v3, v4, v5] t)).cell? ⟨w.heap.size, 5, none⟩ = some v5 := by
  have := heap_alloc_new w (.cells #[v0, v1, v2, v3, v4, v5] t)
  unfold World.cell?
  rw [this]
  exact ⟨rfl, rfl⟩
set_option maxRecDepth 100000 in
set_option maxHeartbeats 1000000 in
theorem st_step (types : List Int) (n : Nat) (hA : BodyC types n) : StC types (n + 1) := by
  intro s at' ae ct ce a cp d w hn hd hd0 hI hT hE hnt hne
  obtain ⟨op, x, y, nn, t, e⟩ := s
  simp only [St.thn, St.els, St.op, St.x, St.y, St.n, St.inner] at *
  have HA := Lib.hid hA
  clear hA
  unfold maxLen at hnt hne
  obtain ⟨r1, hr1⟩ : ∃ r, bodyS types t (d - 1) = r := ⟨_, rfl⟩
  have HR1 := Lib.hid hr1
  clear hr1
  go_enter Try.func105, Try.ntmps105
  go_upto_region 5 with (first | (go_at_call 110; refine (l1Simple_any types _ _ _ _ _ _ _ _ _ _ _ _ _ (by exact hI.gr0 ((Gr.refl _ _).alloc _))).mono ?_; rintro e' w' ⟨rfl, hg⟩))
  all_goals first
    | (go_ret; refine ⟨ret_bool ?_, ((Gr.refl _ _).alloc _)⟩; first | (simp [stS, *]; done) | (simp [stS, *]; omega) | (simp_all [stS]; done) | (simp_all [stS]; omega))
    | (go_ret; refine ⟨ret_bool ?_, ((Gr.refl _ _).alloc _).trans0 (by assumption)⟩; first | (simp [stS, *]; done) | (simp [stS, *]; omega) | (simp_all [stS]; done))
    | (have h1 : (op != 10) = false := by assumption
       have h2 : ¬ op = 10 := by assumption
       exfalso; simp at h1; omega)
    | skip
  all_goals
    have hs : stS types (.mk op x y nn t e) d = (bodyS types t (d - 1) && bodyS types e (d - 1)) := by first | (simp [stS, *]; done) | (simp [stS, *]; omega) | (simp_all [stS]; done) | (simp_all [stS]; omega)
    have HS := Lib.hid hs
    clear hs
    cases r1 with
    | false =>
      go_wp2_with fail
      refine (HA.out t at' ct a cp (d - 1) _ (by omega) (by omega) (by omega) hnt (hI.gr0 ((Gr.refl _ _).alloc _)) (hT.gr0 ((Gr.refl _ _).alloc _))).mono ?_
      rw [HR1.out]
      rintro e' w' ⟨rfl, hg2⟩
      go_wp2_with fail
      go_ret
      exact ⟨ret_bool (by rw [HS.out, HR1.out]; rfl), ((Gr.refl _ _).alloc _).trans0 hg2⟩
    | true =>
      go_wp2_with fail
      refine (HA.out t at' ct a cp (d - 1) _ (by omega) (by omega) (by omega) hnt (hI.gr0 ((Gr.refl _ _).alloc _)) (hT.gr0 ((Gr.refl _ _).alloc _))).mono ?_
      rw [HR1.out]
      rintro e' w' ⟨rfl, hg2⟩
      have q4 : w'.cell? ⟨w.heap.size, 5, none⟩ = some (.slice ae e.length ce) := hg2.cell (p := ⟨w.heap.size, 5, none⟩) (cell?_new6 _ _).2 (by simp)
      go_wp2_with fail
      refine (HA.out e ae ce a cp (d - 1) _ (by omega) (by omega) (by omega) hne ((hI.gr0 ((Gr.refl _ _).alloc _)).gr0 hg2) ((hE.gr0 ((Gr.refl _ _).alloc _)).gr0 hg2)).mono ?_
      rintro e' w'' ⟨rfl, hg3⟩
      go_wp2_with fail
      go_ret
      exact ⟨ret_bool (by rw [HS.out, HR1.out]; rfl), (((Gr.refl _ _).alloc _).trans0 hg2).trans0 hg3⟩
theorem st_all (types : List Int) : ∀ n, StC types n ∧ BodyC types n
  | 0 => ⟨fun s _ _ _ _ _ _ _ _ h => absurd h (by omega), body_step types 0 (fun s _ _ _ _ _ _ _ _ h => absurd h (by omega))⟩
  | n + 1 => ⟨st_step types n (st_all types n).2, body_step types (n + 1) (st_step types n (st_all types n).2)⟩
end Go.Proofs.Ytjlnfmiekmliaaa
