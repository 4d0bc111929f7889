/- Sets of variables as words: walks of which, used, taken, setBit, bits, after in the program. -/
import Derived.Test.YtdnhinkjmjpnnaaDA

import Derived.Test.YtdnhinkjmjpnnaaF1

import Derived.Test.YtdnhinkjmjpnnaaF5

import Derived.Test.YtdnhinkjmjpnnaaFA

import Derived.Test.YtdnhinkjmjpnnaaU2

import Derived.Test.YtdnhinkjmjpnnaaN1

namespace Go.Proofs.Ytdnhinkjmjpnnaa

open Go.RowKit

/-- A variable is used in one of the ways U. -/
def useB (T : List Int) (op x y : Int) (U : List Int) (v : Nat) : Bool := decide (v < T.length) && decide (useK (T.getD v 0) op x y v ∈ U)
theorem useB_at {T : List Int} {op x y : Int} {U : List Int} {v : Nat} (h : v < T.length) : useB T op x y U v = decide (useK T[v] op x y v ∈ U) := by
  unfold useB; simp [h, List.getD]
theorem useB_out {T : List Int} {op x y : Int} {U : List Int} {v : Nat} (h : T.length ≤ v) : useB T op x y U v = false := by
  unfold useB; rw [decide_eq_false (by omega)]; rfl
/-- A word with the bits f. -/
def GotW (f : Nat → Bool) (w : World) (e : Ending) (w' : World) : Prop := ∃ W : Nat, e = .returned (.int .i64 W) ∧ (∀ v, W.testBit v = f v) ∧ W < 2 ^ 6 ∧ Gr w w' none
theorem word_lt {W n : Nat} {f : Nat → Bool} (h : ∀ v, W.testBit v = f v) (hf : ∀ v, n ≤ v → f v = false) : W < 2 ^ n :=
  Nat.lt_pow_two_of_testBit W fun i hi => by rw [h]; exact hf i hi
theorem i64_pow {k : Nat} (hk : k < 63) : IntKind.i64.wrap ((2 : Int) ^ k) = ((2 ^ k : Nat) : Int) := by
  rw [pow_cast]
  have h1 : 2 ^ k < 2 ^ 63 := Nat.pow_lt_pow_right (by omega) hk
  exact wraps_i64 _ (Int.natCast_nonneg _) (by omega)
theorem w64_pow {k : Nat} (hk : k < 63) : wrap64 ((2 : Int) ^ k) = ((2 ^ k : Nat) : Int) := by
  rw [pow_cast]
  have h1 : 2 ^ k < 2 ^ 63 := Nat.pow_lt_pow_right (by omega) hk
  generalize 2 ^ k = x at h1 ⊢
  unfold wrap64
  omega
theorem or_step {W k : Nat} {f : Nat → Bool} (hW : ∀ v, W.testBit v = (decide (v < k) && f v)) (hf : f k = true) (v : Nat) : (W ||| 2 ^ k).testBit v = (decide (v < k + 1) && f v) := by
  rw [Nat.testBit_or, hW, Nat.testBit_two_pow]
  by_cases e : k = v
  · subst e; simp [hf]
  · have : (v < k + 1) = (v < k) := by apply propext; omega
    simp [e, this]
theorem no_step {W k : Nat} {f : Nat → Bool} (hW : ∀ v, W.testBit v = (decide (v < k) && f v)) (hf : f k = false) (v : Nat) : W.testBit v = (decide (v < k + 1) && f v) := by
  rw [hW]
  by_cases e : v = k
  · subst e; simp [hf]
  · have : (v < k + 1) = (v < k) := by apply propext; omega
    simp [this]
theorem bits_upto {W k : Nat} {f : Nat → Bool} (hW : ∀ v, W.testBit v = (decide (v < k) && f v)) : W < 2 ^ k := word_lt hW fun v hv => by rw [decide_eq_false (by omega)]; rfl
theorem pow_mono6 {W k : Nat} (h : W < 2 ^ k) (hk : k ≤ 6) : W < 2 ^ 6 := Nat.lt_of_lt_of_le h (Nat.pow_le_pow_right (by omega) hk)

set_option maxRecDepth 100000 in
set_option maxHeartbeats 1000000 in
theorem which_any (p : Pr) (gb : Nat) (op x y n : Int) (nv : Value) (U : List Int) (au : Option Addr) (cu : Nat) (w : World) (hG : GraphAt w p gb) (hp : p.types.length ≤ 6) (hU : InAt w Any U au) (hUl : U.length ≤ 1048576) :
    Calls Try.prog 145 #[.pointer (some ⟨gb, 0, none⟩), .agg #[.int .i64 op, .int .i64 x, .int .i64 y, .int .i64 n, nv], .slice au U.length cu] w (GotW (useB p.types op x y U) w) := by
  have hGA := hG
  obtain ⟨L, a3, n3, a4, n4, al, cl, hL, d0, d1, d2, hr1, hr2, hr3⟩ := hG
  have hG1 : Gr w (w.alloc (.cells #[.int .i64 op, .int .i64 x, .int .i64 y, .int .i64 n, nv] 88)) none := (Gr.refl _ _).alloc _
  have hE : (w.alloc (.cells #[.int .i64 op, .int .i64 x, .int .i64 y, .int .i64 n, nv] 88)).heap[w.heap.size]? = some (.cells #[.int .i64 op, .int .i64 x, .int .i64 y, .int .i64 n, nv] 88 (0, 0)) := heap1_0 _ _
  have e0 := hG1.cell d0 (by simp)
  have HE := Lib.hid hE
  have HG := Lib.hid hGA
  have HU := Lib.hid hU
  clear hL d0 d1 d2 hr1 hr2 hr3 hE hGA hU
  go_enter Try.func145, Try.ntmps145
  go_wp2_with fail
  generalize w.alloc (.cells #[.int .i64 op, .int .i64 x, .int .i64 y, .int .i64 n, nv] 88) = w1 at *
  go_loopw [7, 15] (fun s i wr => ∃ k W : Nat, k ≤ p.types.length ∧ i = .int .i64 k ∧ s = .int .i64 W ∧ (∀ v, W.testBit v = (decide (v < k) && useB p.types op x y U v)) ∧ Gr w1 wr none) (fun _ i _ => p.types.length - (intOf i).toNat)
  case atStart => exact ⟨0, 0, Nat.zero_le _, rfl, rfl, fun v => by simp, Gr.refl _ _⟩
  case round =>
    obtain ⟨k, W, hk, rfl, rfl, hW, hg⟩ := hrel
    have hW6 : W < 2 ^ 6 := pow_mono6 (bits_upto hW) (by omega)
    have HW := Lib.hid hW
    clear hW
    by_cases hlt : k < p.types.length
    · have hk6 : k < 6 := by omega
      have b0 := hg.cell (p := ⟨w.heap.size, 0, none⟩) (cell_of_row _ _ _ _ _ _ HE.out) (by simp)
      have b1 := hg.cell (p := ⟨w.heap.size, 1, none⟩) (cell_of_row _ _ _ _ _ _ HE.out) (by simp)
      have b2 := hg.cell (p := ⟨w.heap.size, 2, none⟩) (cell_of_row _ _ _ _ _ _ HE.out) (by simp)
      have b3 := hg.cell (p := ⟨w.heap.size, 3, none⟩) (cell_of_row _ _ _ _ _ _ HE.out) (by simp)
      have b4 := hg.cell (p := ⟨w.heap.size, 4, none⟩) (cell_of_row _ _ _ _ _ _ HE.out) (by simp)
      obtain ⟨B, hB⟩ : ∃ B, decide (useK p.types[k] op x y k ∈ U) = B := ⟨_, rfl⟩
      have HF := Lib.hid (show useB p.types op x y U k = B from (useB_at hlt).trans hB)
      have HB := Lib.hid hB
      clear hB
      go_wp2_with fail
      refine (use_any p gb k op x y n nv hlt _ (HG.out.gr (hG1.trans0 hg)) (by omega)).mono ?_
      rintro e w2 ⟨rfl, hg2⟩
      have hg3 : Gr w1 w2 none := hg.trans0 hg2
      clear hg2 b0 b1 b2 b3 b4
      go_wp2_with fail
      refine (hasI_any U _ au cu _ (HU.out.gr0 (hG1.trans0 hg3)) hUl).mono ?_
      rw [HB.out]
      rintro e w3 ⟨rfl, rfl⟩
      cases B with
      | true =>
        have hor : bits BinOp.or .i64 (W : Nat) (wrap64 (2 ^ k)) = ((W ||| 2 ^ k : Nat) : Int) := by
          rw [w64_pow (by omega)]; exact i64_or (by omega) (Nat.pow_lt_pow_right (by omega) (by omega))
        obtain ⟨W', hW'⟩ : ∃ W', W ||| 2 ^ k = W' := ⟨_, rfl⟩
        have HN := Lib.hid (show ∀ v, W'.testBit v = (decide (v < k + 1) && useB p.types op x y U v) from hW' ▸ or_step HW.out HF.out)
        rw [hW'] at hor
        clear hW'
        go_wp2_with fail
        go_roundw
        case rel => exact ⟨k + 1, W', by omega, by go_num, rfl, HN.out, hg3⟩
        case measure => simp [intOf]; omega
      | false =>
        have HN := Lib.hid (no_step HW.out HF.out)
        go_wp2_with fail
        go_roundw
        case rel => exact ⟨k + 1, W, by omega, by go_num, rfl, HN.out, hg3⟩
        case measure => simp [intOf]; omega
    · obtain rfl : k = p.types.length := by omega
      go_wp2_with fail
      go_ret
      exact ⟨W, rfl, fun v => by
        rw [HW.out]
        by_cases h : v < p.types.length
        · rw [decide_eq_true h]; rfl
        · rw [useB_out (by omega), Bool.and_false], hW6, hG1.trans0 hg⟩
theorem inAt_lit3 (w : World) (A : Obj) (a b c : Int) : InAt ((w.alloc A).alloc (.cells #[.int .i64 a, .int .i64 b, .int .i64 c] 3)) Any [a, b, c] (some ⟨w.heap.size + 1, 0, none⟩) := by
  refine InAt.of fun i hi => ⟨trivial, ?_⟩
  have h := heap2_1 w A (.cells #[.int .i64 a, .int .i64 b, .int .i64 c] 3)
  rw [cell_of_row _ _ _ _ _ _ h]
  match i, hi with
  | 0, _ => rfl
  | 1, _ => rfl
  | 2, _ => rfl
/-- What a point uses, what it takes, what it sets. -/
def usesB (T : List Int) (op x y : Int) : Nat → Bool := useB T op x y [1, 2, 3]
def takesB (T : List Int) (op x y : Int) : Nat → Bool := useB T op x y [2]
def setsB (op x : Int) (v : Nat) : Bool := decide (setOf op x = v)
set_option maxRecDepth 100000 in
set_option maxHeartbeats 1000000 in
theorem used_any (p : Pr) (gb : Nat) (op x y n : Int) (nv : Value) (w : World) (hG : GraphAt w p gb) (hp : p.types.length ≤ 6) :
    Calls Try.prog 146 #[.pointer (some ⟨gb, 0, none⟩), .agg #[.int .i64 op, .int .i64 x, .int .i64 y, .int .i64 n, nv]] w (GotW (usesB p.types op x y) w) := by
  have hg1 : ∀ o o', Gr w ((w.alloc o).alloc o') none := fun o o' => ((Gr.refl _ _).alloc _).alloc _
  go_enter Try.func146, Try.ntmps146
  go_wp2_with fail
  refine (which_any p gb op x y n nv [1, 2, 3] _ _ _ (hG.gr (hg1 _ _)) hp (inAt_lit3 _ _ _ _ _) (by simp)).mono ?_
  rintro e w1 ⟨W, rfl, hW, hlt, hg⟩
  have HW := Lib.hid hW
  clear hW
  go_wp2_with fail
  go_ret
  exact ⟨W, rfl, HW.out, hlt, (hg1 _ _).trans0 hg⟩
set_option maxRecDepth 100000 in
set_option maxHeartbeats 1000000 in
theorem taken_any (p : Pr) (gb : Nat) (op x y n : Int) (nv : Value) (w : World) (hG : GraphAt w p gb) (hp : p.types.length ≤ 6) :
    Calls Try.prog 100 #[.pointer (some ⟨gb, 0, none⟩), .agg #[.int .i64 op, .int .i64 x, .int .i64 y, .int .i64 n, nv]] w (GotW (takesB p.types op x y) w) := by
  have hg1 : ∀ o o', Gr w ((w.alloc o).alloc o') none := fun o o' => ((Gr.refl _ _).alloc _).alloc _
  go_enter Try.func100, Try.ntmps100
  go_wp2_with fail
  refine (which_any p gb op x y n nv [2] _ _ _ (hG.gr (hg1 _ _)) hp (inAt_one _ _ _) (by simp)).mono ?_
  rintro e w1 ⟨W, rfl, hW, hlt, hg⟩
  have HW := Lib.hid hW
  clear hW
  go_wp2_with fail
  go_ret
  exact ⟨W, rfl, HW.out, hlt, (hg1 _ _).trans0 hg⟩
set_option maxRecDepth 100000 in
set_option maxHeartbeats 1000000 in
theorem setBit_any (op x y n : Int) (nv : Value) (w : World) (hx : setOf op x < 6) (hx0 : -1 ≤ setOf op x) :
    Calls Try.prog 147 #[.agg #[.int .i64 op, .int .i64 x, .int .i64 y, .int .i64 n, nv]] w (GotW (setsB op x) w) := by
  have hg1 : ∀ o, Gr w (w.alloc o) none := fun o => (Gr.refl _ _).alloc _
  obtain ⟨s, hs⟩ : ∃ s, setOf op x = s := ⟨_, rfl⟩
  rw [hs] at hx hx0
  have HS := Lib.hid hs
  clear hs
  go_enter Try.func147, Try.ntmps147
  go_wp2_with fail
  refine (sets_any op x y n nv _).mono ?_
  rw [HS.out]
  rintro e w1 ⟨rfl, hg⟩
  by_cases h0 : 0 ≤ s
  · obtain ⟨k, rfl⟩ := Int.eq_ofNat_of_zero_le h0
    have hk : k < 6 := by omega
    have hp : wrap64 (2 ^ k) = ((2 ^ k : Nat) : Int) := w64_pow (by omega)
    have hlt : 2 ^ k < 2 ^ 6 := Nat.pow_lt_pow_right (by omega) hk
    have HP := Lib.hid (show ∀ v, (2 ^ k).testBit v = setsB op x v from fun v => by
      unfold setsB; rw [HS.out, Nat.testBit_two_pow]; apply decide_eq_decide.2; omega)
    obtain ⟨W, hW⟩ : ∃ W, 2 ^ k = W := ⟨_, rfl⟩
    rw [hW] at hp hlt HP
    clear hW
    go_wp2_with fail
    go_ret
    exact ⟨W, ret_int hp, HP.out, hlt, (hg1 _).trans0 hg⟩
  · go_wp2_with fail
    go_ret
    exact ⟨0, rfl, fun v => by unfold setsB; rw [HS.out, Nat.zero_testBit]; exact (decide_eq_false (by omega)).symm, by omega, (hg1 _).trans0 hg⟩
set_option maxRecDepth 100000 in
set_option maxHeartbeats 1000000 in
theorem bits_any (x : Nat) (w : World) (hx : x < 2 ^ 6) :
    Calls Try.prog 101 #[.int .i64 x] w (HandI (coll x.testBit 6) w) := by
  have hC0 : Coll w w.heap.size w.heap.size x.testBit 0 none 0 0 := Coll.nil _ (Nat.le_refl _) _
  have HX := Lib.hid hx
  go_enter Try.func101, Try.ntmps101
  go_wp2_with fail
  go_loopw [3, 4] (fun v i wr => ∃ (k m cap : Nat) (ao : Option Addr), k ≤ 6 ∧ i = .int .i64 k ∧ v = .slice ao m cap ∧ Coll wr w.heap.size w.heap.size x.testBit k ao m cap ∧ Gr w wr none) (fun _ i _ => 6 - (intOf i).toNat)
  case atStart => exact ⟨0, 0, 0, _, Nat.zero_le _, rfl, rfl, hC0, Gr.refl _ _⟩
  case round =>
    obtain ⟨k, m, cap, ao, hkl, rfl, rfl, hCo, hgr⟩ := hrel
    have hnk := hCo.le
    have HCo := Lib.hid hCo
    clear hCo hC0
    have hsh : (x : Int) / 2 ^ k = ((x / 2 ^ k : Nat) : Int) := by simp
    have HD0 := Lib.hid (show x / 2 ^ k = 0 ↔ x < 2 ^ k from shr_zero)
    have hbit0 : bits BinOp.and IntKind.i64 (((x / 2 ^ k : Nat) : Int)) 1 = if x.testBit k then 1 else 0 := i64_bit (by omega)
    obtain ⟨d, hd⟩ : ∃ d, x / 2 ^ k = d := ⟨_, rfl⟩
    rw [hd] at hsh HD0 hbit0
    clear hd
    by_cases h0 : d = 0
    · have HE := Lib.hid (HD0.out.1 h0)
      subst h0
      have hsh' : (x : Int) / 2 ^ k = 0 := by simpa using hsh
      clear hsh hbit0
      have HO := Lib.hid (show coll x.testBit 6 = coll x.testBit k from coll_up (fun i hi => Nat.testBit_lt_two_pow (Nat.lt_of_lt_of_le HE.out (Nat.pow_le_pow_right (by omega) hi))) 6 hkl)
      go_wp2_with fail
      go_ret
      exact HCo.out.hand HO.out hgr
    · have hk6 : k < 6 := by
        rcases Nat.lt_or_ge k 6 with h | h
        · exact h
        · obtain rfl : k = 6 := by omega
          exact absurd (HD0.out.2 HX.out) h0
      have hpos : (0 : Int) < (d : Int) := by omega
      cases hb : x.testBit k with
      | true =>
        have HB := Lib.hid hb
        rw [hb, if_pos rfl] at hbit0
        clear hb h0
        go_wp2_with (at_builtin; refine app_c wr _ rfl (.tmp 16) (.tmp 18) rfl w.heap.size w.heap.size ao cap m _ k rfl HCo.out ((Gr.refl _ _).alloc _) HB.out wr.heap.size 1 rfl (cell_of_row _ _ _ _ _ _ (heap1_0 _ _)) (by omega) hgr.size ?_; rintro g cap' w4 hC4 hg4)
        go_roundw
        case rel => exact ⟨k + 1, m + 1, cap', _, by omega, by go_num, rfl, hC4, hg4 _ (hgr.alloc _) (Nat.le_refl _)⟩
        case measure => simp [intOf]; omega
      | false =>
        have HB := Lib.hid hb
        rw [hb, if_neg (by simp)] at hbit0
        clear hb h0
        go_wp2_with fail
        go_roundw
        case rel => exact ⟨k + 1, m, cap, ao, by omega, by go_num, rfl, HCo.out.no HB.out, hgr⟩
        case measure => simp [intOf]; omega
/-- The words of a list of ints. -/
def WRow (w : World) (g n : Nat) (O : Nat → Nat) : Prop := IRow w g n (fun j => (O j : Int))
theorem or_any (l : List Nat) (O : Nat → Nat) (k v : Nat) (h : k < l.length) (W : Nat) (hW : ∀ v, W.testBit v = (l.take k).any fun j => (O j).testBit v) : (W ||| O l[k]).testBit v = (l.take (k + 1)).any fun j => (O j).testBit v := by
  rw [Nat.testBit_or, hW, List.take_succ_eq_append_getElem h, List.any_append]; simp
set_option maxRecDepth 100000 in
set_option maxHeartbeats 1000000 in
theorem after_any (p : Pr) (gb : Nat) (go co a : Nat) (O : Nat → Nat) (w : World) (hG : GraphAt w p gb) (hO : WRow w go (pts p).length O) (hlt : ∀ j, O j < 2 ^ 6) (ha : a < (pts p).length) (_hl : (pts p).length ≤ 100) :
    Calls Try.prog 105 #[.pointer (some ⟨gb, 0, none⟩), .slice (some ⟨go, 0, none⟩) (pts p).length co, .int .i64 a] w (GotW (fun v => (nextOf (pts p) a).any fun j => (O j).testBit v) w) := by
  have hN := (pts_next p) a ha
  obtain ⟨L, a3, n3, a4, n4, al, cl, hL, d0, d1, d2, hr1, hr2, hr3⟩ := hG
  rw [← hL] at hO ha hN ⊢
  obtain ⟨b, off, rfl, an, cn, c0, c1, c2, c3, c4, hin, -⟩ := hr3 a ha
  rw [← nextOf_get ha] at c4 hin
  have HO := Lib.hid hO
  have HLT := Lib.hid hlt
  obtain ⟨N, hNN⟩ : ∃ N, nextOf L a = N := ⟨_, rfl⟩
  rw [hNN] at c4 hin hN ⊢
  rw [← zs_length] at c4
  obtain ⟨hN2, hNl⟩ := hN
  have HNl := Lib.hid hNl
  have hzl := zs_length N
  rw [← hzl] at hN2
  have HIN := Lib.hid hin
  clear hL c0 c1 c2 c3 d0 d1 hr1 hr2 hr3 hO hlt hNN hNl hin
  obtain ⟨m, hm⟩ : ∃ m, (zs N).length = m := ⟨_, rfl⟩
  rw [hm] at c4 hN2 hzl
  have HM := Lib.hid hm
  have HZL := Lib.hid hzl
  clear hm hzl
  go_enter Try.func105, Try.ntmps105
  go_wp2_with fail
  go_loop [7, 19] (fun s i => ∃ k W : Nat, k ≤ m ∧ i = .int .i64 k ∧ s = .int .i64 W ∧ W < 2 ^ 6 ∧ ∀ v, W.testBit v = (N.take k).any fun j => (O j).testBit v) (fun _ i => m - (intOf i).toNat)
  case atStart => exact ⟨0, 0, Nat.zero_le _, rfl, rfl, by omega, fun v => by simp⟩
  case round =>
    obtain ⟨k, W, hk, rfl, rfl, hW6, hW⟩ := hrel
    have HW := Lib.hid hW
    clear hW
    by_cases hlt : k < m
    · have hkN : k < N.length := by rw [← HZL.out]; exact hlt
      have hkz : k < (zs N).length := by rw [HM.out]; exact hlt
      obtain ⟨b1, o1, rfl, -, c5⟩ := HIN.out.at hkz
      obtain ⟨j, hj⟩ : ∃ j, N[k] = j := ⟨_, rfl⟩
      have hjL : j < L.length := by rw [← hj]; exact HNl.out _ (List.getElem_mem hkN)
      have hzk : (zs N)[k] = (j : Int) := by rw [← hj]; simp [zs]
      rw [hzk] at c5
      have c6 := HO.out.cell hjL
      have hor : bits BinOp.or .i64 (W : Nat) (O j : Nat) = ((W ||| O j : Nat) : Int) := i64_or (by omega) (by have := HLT.out j; omega)
      have hW' : W ||| O j < 2 ^ 6 := Nat.or_lt_two_pow hW6 (HLT.out j)
      have HN := Lib.hid (show ∀ v, (W ||| O j).testBit v = (N.take (k + 1)).any fun j => (O j).testBit v from fun v => by rw [← hj]; exact or_any N O k v hkN W HW.out)
      obtain ⟨W', hWW⟩ : ∃ W', W ||| O j = W' := ⟨_, rfl⟩
      rw [hWW] at hor hW' HN
      obtain ⟨Oj, hOj⟩ : ∃ Oj, O j = Oj := ⟨_, rfl⟩
      rw [hOj] at c6 hor
      clear hWW hj hzk hOj
      go_wp2_with fail
      go_round
      case rel => exact ⟨k + 1, W', by omega, by go_num, rfl, hW', HN.out⟩
      case measure => simp [intOf]; omega
    · obtain rfl : k = m := by omega
      go_wp2_with fail
      go_ret
      exact ⟨W, rfl, fun v => by rw [HW.out, List.take_of_length_le (by rw [← HZL.out]; exact Nat.le_refl _)], hW6, Gr.refl _ _⟩
end Go.Proofs.Ytdnhinkjmjpnnaa
