/- What always has a value, what may have one: walks of alwaysSet, maybeSet, unset, givenSet of the program, and of AlwaysSet, MaybeSet, UnsetUses, GivesOf, OpenIssues. -/
import Derived.Test.YtadlnjglpigjmaaEC

import Derived.Test.YtadlnjglpigjmaaED

namespace Go.Proofs.Ytadlnjglpigjmaa

open Go.RowKit

/-- What always has a value, from g on. -/
noncomputable def hasB (p : Pr) (g : Nat → Bool) (i v : Nat) : Bool := decide (v < p.types.length) && !unB p g i v
def noneG (_ : Nat) : Bool := false
def givenG (l : List Int) (v : Nat) : Bool := decide ((v : Int) ∈ l)
def givenIn (p : Pr) (l : List Int) : Bool := l.all fun v => decide (0 ≤ v) && decide (v < p.types.length)
/-- Does a point use what may lack? -/
noncomputable def lackB (p : Pr) (g : Nat → Bool) (i : Nat) : Bool := (List.range p.types.length).any fun v => usL p.types (pts p) i v && unB p g i v
noncomputable def alwaysOf (p : Pr) (a : Int) : List Int := if 0 ≤ a ∧ a < (ptsOf p).length then coll (hasB p noneG a.toNat) p.types.length else []
noncomputable def maybeOf (p : Pr) (a : Int) : List Int := if 0 ≤ a ∧ a < (ptsOf p).length then coll (mayB p a.toNat) p.types.length else []
noncomputable def unsetOf (p : Pr) : List Int := if validP p = true then coll (lackB p noneG) (pts p).length else []
noncomputable def givesOf (p : Pr) (l : List Int) : List Int := if validP p = true ∧ givenIn p l = true then coll (hasB p (givenG l) ((pts p).length - 1)) p.types.length else []
noncomputable def openOf (p : Pr) (l : List Int) : List Int := if validP p = true ∧ givenIn p l = true then coll (lackB p (givenG l)) (pts p).length else []
theorem alwaysOf_in {p : Pr} {k : Nat} (hk : k < (ptsOf p).length) : alwaysOf p k = coll (hasB p noneG k) p.types.length := by unfold alwaysOf; rw [if_pos (by omega)]; rfl
theorem alwaysOf_out {p : Pr} {a : Int} (h : ¬ (0 ≤ a ∧ a < (ptsOf p).length)) : alwaysOf p a = [] := by unfold alwaysOf; rw [if_neg h]
theorem maybeOf_in {p : Pr} {k : Nat} (hk : k < (ptsOf p).length) : maybeOf p k = coll (mayB p k) p.types.length := by unfold maybeOf; rw [if_pos (by omega)]; rfl
theorem maybeOf_out {p : Pr} {a : Int} (h : ¬ (0 ≤ a ∧ a < (ptsOf p).length)) : maybeOf p a = [] := by unfold maybeOf; rw [if_neg h]
theorem unsetOf_in {p : Pr} (h : validP p = true) : unsetOf p = coll (lackB p noneG) (pts p).length := by unfold unsetOf; rw [if_pos h]
theorem unsetOf_out {p : Pr} (h : validP p = false) : unsetOf p = [] := by unfold unsetOf; rw [h]; rfl
theorem givesOf_in {p : Pr} {l : List Int} (h : validP p = true) (hl : givenIn p l = true) : givesOf p l = coll (hasB p (givenG l) ((pts p).length - 1)) p.types.length := by unfold givesOf; rw [if_pos ⟨h, hl⟩]
theorem givesOf_out {p : Pr} {l : List Int} (h : ¬ (validP p = true ∧ givenIn p l = true)) : givesOf p l = [] := by unfold givesOf; rw [if_neg h]
theorem openOf_in {p : Pr} {l : List Int} (h : validP p = true) (hl : givenIn p l = true) : openOf p l = coll (lackB p (givenG l)) (pts p).length := by unfold openOf; rw [if_pos ⟨h, hl⟩]
theorem openOf_out {p : Pr} {l : List Int} (h : ¬ (validP p = true ∧ givenIn p l = true)) : openOf p l = [] := by unfold openOf; rw [if_neg h]
theorem ptsOf_valid {p : Pr} {a : Int} (h : 0 ≤ a ∧ a < (ptsOf p).length) : validP p = true := valid_posE (by omega)
theorem alwaysOf_len (p : Pr) (a : Int) : (alwaysOf p a).length ≤ 1048576 := by
  unfold alwaysOf
  split
  · rename_i h
    have := coll_len (hasB p noneG a.toNat) p.types.length
    have := valid_types (ptsOf_valid h)
    omega
  · simp
theorem maybeOf_len (p : Pr) (a : Int) : (maybeOf p a).length ≤ 1048576 := by
  unfold maybeOf
  split
  · rename_i h
    have := coll_len (mayB p a.toNat) p.types.length
    have := valid_types (ptsOf_valid h)
    omega
  · simp
theorem unsetOf_len (p : Pr) : (unsetOf p).length ≤ 1048576 := by
  unfold unsetOf
  split
  · rename_i h
    have := coll_len (lackB p noneG) (pts p).length
    have := pts_len h
    omega
  · simp
theorem givesOf_len (p : Pr) (l : List Int) : (givesOf p l).length ≤ 1048576 := by
  unfold givesOf
  split
  · rename_i h
    have := coll_len (hasB p (givenG l) ((pts p).length - 1)) p.types.length
    have := valid_types h.1
    omega
  · simp
theorem openOf_len (p : Pr) (l : List Int) : (openOf p l).length ≤ 1048576 := by
  unfold openOf
  split
  · rename_i h
    have := coll_len (lackB p (givenG l)) (pts p).length
    have := pts_len h.1
    omega
  · simp
theorem hasB_hi {p : Pr} {g : Nat → Bool} {i v : Nat} (h : p.types.length ≤ v) : hasB p g i v = false := by unfold hasB; rw [decide_eq_false (by omega)]; rfl
theorem mayB_hi {p : Pr} (hv : validP p = true) {i v : Nat} (h : p.types.length ≤ v) : mayB p i v = false := by
  cases hm : mayB p i v with
  | false => rfl
  | true => have := mayB_lt hv hm; omega
theorem unB_congr {p : Pr} {f g : Nat → Bool} (h : ∀ v, v < p.types.length → f v = g v) : unB p f = unB p g := by
  funext i v
  rw [Bool.eq_iff_iff, unB_iff, unB_iff]
  refine Least.congr (fun X k b => ?_) i v
  unfold FwS
  constructor
  · rintro (⟨h1, h2, h3⟩ | h1)
    · exact .inl ⟨h1, h2, (h b h2) ▸ h3⟩
    · exact .inr h1
  · rintro (⟨h1, h2, h3⟩ | h1)
    · exact .inl ⟨h1, h2, (h b h2).symm ▸ h3⟩
    · exact .inr h1
theorem hasB_congr {p : Pr} {f g : Nat → Bool} (h : ∀ v, v < p.types.length → f v = g v) : hasB p f = hasB p g := by
  funext i v; unfold hasB; rw [unB_congr h]
theorem lackB_congr {p : Pr} {f g : Nat → Bool} (h : ∀ v, v < p.types.length → f v = g v) : lackB p f = lackB p g := by
  funext i; unfold lackB; rw [unB_congr h]
/-- The words of what there always is. -/
theorem alls_bit {p : Pr} {f : Nat} {O : Nat → Nat} (hO : ∀ j, O j < 2 ^ p.types.length) (hL : ∀ i v, tbN p.types.length O i v = true ↔ Least (FwS (pts p) (unI p.types.length f.testBit) (unA p.types (pts p))) i v) (i v : Nat) : (O i).testBit v = hasB p f.testBit i v := by
  unfold hasB
  by_cases h : v < p.types.length
  · have h1 := hL i v
    rw [← unB_iff] at h1
    unfold tbN at h1
    rw [decide_eq_true h] at h1 ⊢
    rw [Bool.true_and] at h1 ⊢
    cases h2 : (O i).testBit v <;> cases h3 : unB p f.testBit i v <;> simp [h2, h3] at h1 ⊢
  · rw [decide_eq_false h, Bool.false_and]
    exact Nat.testBit_lt_two_pow (Nat.lt_of_lt_of_le (hO i) (Nat.pow_le_pow_right (by omega) (by omega)))
theorem lack_ndiff {p : Pr} {f : Nat → Bool} {i W S : Nat} (hW : ∀ v, W.testBit v = usL p.types (pts p) i v) (hS : ∀ v, S.testBit v = hasB p f i v) : (ndiff W S ≠ 0) ↔ lackB p f i = true := by
  unfold lackB
  rw [List.any_eq_true]
  constructor
  · intro h
    obtain ⟨v, hv⟩ : ∃ v, (ndiff W S).testBit v = true := Classical.byContradiction fun hn => h (Nat.eq_of_testBit_eq fun v => by
      rw [Nat.zero_testBit]
      cases hb : (ndiff W S).testBit v with
      | false => rfl
      | true => exact absurd ⟨v, hb⟩ hn)
    rw [ndiff_bit, hW, hS] at hv
    simp only [Bool.and_eq_true] at hv
    have hvl : v < p.types.length := by
      rcases Nat.lt_or_ge v p.types.length with h | h
      · exact h
      · have := hv.1
        rw [usL_hi' h] at this; cases this
    refine ⟨v, List.mem_range.2 hvl, ?_⟩
    have h2 := hv.2
    unfold hasB at h2
    rw [decide_eq_true hvl] at h2
    rw [hv.1]
    simpa using h2
  · rintro ⟨v, hv, hu⟩ h0
    have hvl := List.mem_range.1 hv
    simp only [Bool.and_eq_true] at hu
    have := ndiff_bit W S v
    rw [h0, Nat.zero_testBit, hW, hS, hu.1] at this
    unfold hasB at this
    rw [decide_eq_true hvl, hu.2] at this
    simp at this
set_option maxRecDepth 100000 in
set_option maxHeartbeats 1000000 in
theorem alwaysSet_any (p : Pr) (gb f : Nat) (w : World) (hGA : GraphAt w p gb) (hv : validP p = true) (hf : f < 2 ^ p.types.length) :
    Calls Try.prog 61 #[.pointer (some ⟨gb, 0, none⟩), .int .i64 f] w (Alls p f w) := by
  go_enter Try.func61, Try.ntmps61
  go_wp2_with fail
  refine (forwardAll_any p gb f _ hGA hv hf).mono ?_
  rintro e w1 ⟨g, O, rfl, h1, h2, h3, h4⟩
  have H1 := Lib.hid h1
  have H2 := Lib.hid h2
  have H3 := Lib.hid h3
  clear h1 h2 h3
  go_wp2_with fail
  go_ret
  exact ⟨g, O, rfl, H1.out, H2.out, H3.out, h4⟩
set_option maxRecDepth 100000 in
set_option maxHeartbeats 1000000 in
theorem maybeSet_any (p : Pr) (gb : Nat) (w : World) (hGA : GraphAt w p gb) (hv : validP p = true) :
    Calls Try.prog 64 #[.pointer (some ⟨gb, 0, none⟩)] w (Mays p w) := by
  go_enter Try.func64, Try.ntmps64
  go_wp2_with fail
  refine (forwardMay_any p gb _ hGA hv).mono ?_
  rintro e w1 ⟨g, O, rfl, h1, h2, h3, h4⟩
  have H1 := Lib.hid h1
  have H2 := Lib.hid h2
  have H3 := Lib.hid h3
  clear h1 h2 h3
  go_wp2_with fail
  go_ret
  exact ⟨g, O, rfl, H1.out, H2.out, H3.out, h4⟩
set_option maxRecDepth 100000 in
set_option maxHeartbeats 2000000 in
theorem unset_any (p : Pr) (gb f : Nat) (w : World) (hGA : GraphAt w p gb) (hv : validP p = true) (hf : f < 2 ^ p.types.length) :
    Calls Try.prog 66 #[.pointer (some ⟨gb, 0, none⟩), .int .i64 f] w (HandI (coll (lackB p f.testBit) (pts p).length) w) := by
  have hp : p.types.length ≤ 6 := valid_types hv
  have hl : (pts p).length ≤ 61 := pts_len hv
  have HGP := Lib.hid hGA
  have HV := Lib.hid hv
  have h26 : 2 ^ p.types.length ≤ 2 ^ 6 := Nat.pow_le_pow_right (by omega) hp
  go_enter Try.func66, Try.ntmps66
  go_wp2_with fail
  refine (alwaysSet_any p gb f _ hGA hv hf).mono ?_
  rintro e w1 ⟨g, O, rfl, hW, hO, hL, hg1⟩
  have HB := Lib.hid (alls_bit hO hL)
  have HO := Lib.hid (fun j => Nat.lt_of_lt_of_le (hO j) h26)
  have HW := Lib.hid hW
  have HG1 := Lib.hid hg1
  have hC0 : Coll w1 w.heap.size w1.heap.size (lackB p f.testBit) 0 none 0 0 := Coll.nil _ hg1.size _
  obtain ⟨L, a3, n3, a4, n4, al, cl, hLL, d0, d1, d2, hr1, hr2, hr3⟩ := hGA
  have HLL := Lib.hid hLL
  rw [← hLL] at hl ⊢
  have HR3 := Lib.hid hr3
  have HD2 := Lib.hid d2
  rw [← hLL] at HW
  clear hW hO hL hLL d0 d1 d2 hr1 hr2 hr3 hv hf h26 hg1
  go_wp2_with fail
  go_loopw [5, 12] (fun v i wr => ∃ (k n cap : Nat) (ao : Option Addr), k ≤ L.length ∧ i = .int .i64 k ∧ v = .slice ao n cap ∧ Coll wr w.heap.size w1.heap.size (lackB p f.testBit) k ao n cap ∧ Gr w1 wr none) (fun _ i _ => L.length - (intOf i).toNat)
  case atStart => exact ⟨0, 0, 0, _, Nat.zero_le _, rfl, rfl, hC0, Gr.refl _ _⟩
  case round =>
    obtain ⟨k, n, cap, ao, hkl, rfl, rfl, hCo, hgr⟩ := hrel
    have hnk := hCo.le
    have HC := Lib.hid hCo
    have HGR := Lib.hid hgr
    clear hCo hC0
    by_cases hlt : k < L.length
    · have hgw := HG1.out.trans0 hgr
      have ck := (IRow.gr0 HW.out hgr).cell hlt
      have d2 := hgw.cell HD2.out (by simp)
      obtain ⟨b, po, rfl, an, cn, c0, c1, c2, c3, c4, -, -⟩ := HR3.out k hlt
      replace c0 := hgw.cell c0 (by simp)
      replace c1 := hgw.cell c1 (by simp)
      replace c2 := hgw.cell c2 (by simp)
      replace c3 := hgw.cell c3 (by simp)
      replace c4 := hgw.cell c4 (by simp)
      obtain ⟨q, eq⟩ : ∃ q, L[k] = q := ⟨_, rfl⟩
      rw [eq] at c0 c1 c2 c3 c4
      obtain ⟨nn, hnn⟩ : ∃ nn, q.next.length = nn := ⟨_, rfl⟩
      rw [hnn] at c4
      have HPA := Lib.hid ((ptAt_get hlt).trans eq)
      obtain ⟨S, hS⟩ : ∃ S, O k = S := ⟨_, rfl⟩
      have HS := Lib.hid hS
      have hS6 : S < 2 ^ 6 := by rw [← hS]; exact HO.out k
      rw [hS] at ck
      have HGW := Lib.hid hgw
      clear eq hnn hS hgw hgr
      go_wp2_with fail
      refine (used_any p gb q.op q.x q.y q.n (.slice an nn cn) _ (HGP.out.gr HGW.out) hp).mono ?_
      rintro e w2 ⟨W, rfl, hWb, hW6, hg2⟩
      have HN := Lib.hid (lack_ndiff (p := p) (f := f.testBit) (i := k) (W := W) (S := S) (fun v => by rw [hWb, ← HLL.out]; unfold usL; rw [HPA.out]) (fun v => by rw [← HS.out]; exact HB.out k v))
      have hnd : bits BinOp.andNot .i64 (W : Nat) (S : Nat) = (ndiff W S : Int) := i64_andNot (by omega)
      obtain ⟨D, hD⟩ : ∃ D, ndiff W S = D := ⟨_, rfl⟩
      rw [hD] at HN hnd
      have HC2 := Lib.hid (HC.out.gr hg2)
      have HG2 := Lib.hid (HGR.out.trans0 hg2)
      clear hD hWb ck c0 c1 c2 c3 c4 hg2 d2
      by_cases h0 : D = 0
      · have HF := Lib.hid (show lackB p f.testBit k = false by
          cases h : lackB p f.testBit k with
          | false => rfl
          | true => exact absurd h0 (HN.out.2 h))
        subst h0
        go_wp2_with fail
        go_roundw
        case rel => exact ⟨k + 1, n, cap, ao, by omega, by go_num, rfl, HC2.out.no HF.out, HG2.out⟩
        case measure => simp [intOf]; omega
      · have HT := Lib.hid (HN.out.1 h0)
        have hcmp : ((D : Int) != 0) = true := by simp; omega
        go_wp2_with (at_builtin; refine app_c w2 _ rfl (.tmp 29) (.tmp 31) rfl w.heap.size w1.heap.size ao cap n _ k rfl HC2.out ((Gr.refl _ _).alloc _) HT.out w2.heap.size 1 rfl (cell_of_row _ _ _ _ _ _ (heap1_0 _ _)) (by omega) HG2.out.size ?_; rintro g cap' w4 hC4 hg4)
        go_roundw
        case rel => exact ⟨k + 1, n + 1, cap', _, by omega, by go_num, rfl, hC4, hg4 _ (HG2.out.alloc _) (Nat.le_refl _)⟩
        case measure => simp [intOf]; omega
    · obtain rfl : k = L.length := by omega
      go_wp2_with fail
      go_ret
      exact HC.out.hand (by rw [← HLL.out]) (HG1.out.trans0 hgr)
/-- A set of variables that are given, if they are all there. -/
def GivenW (p : Pr) (l : List Int) (w : World) (e : Ending) (w' : World) : Prop :=
  (if givenIn p l = true then ∃ f : Nat, e = .returned (.tuple #[.int .i64 f, .bool true]) ∧ f < 2 ^ p.types.length ∧ ∀ v, f.testBit v = givenG l v else e = .returned (.tuple #[.int .i64 0, .bool false])) ∧ w = w'
theorem given_step {l : List Int} {k j W : Nat} (hk : k < l.length) (hj : l[k] = (j : Int)) (hW : ∀ v, W.testBit v = givenG (l.take k) v) (v : Nat) : (W ||| 2 ^ j).testBit v = givenG (l.take (k + 1)) v := by
  rw [Nat.testBit_or, hW, Nat.testBit_two_pow, List.take_succ_eq_append_getElem hk, hj]
  unfold givenG
  rw [← Bool.decide_or]
  apply decide_eq_decide.2
  rw [List.mem_append, List.mem_singleton]
  constructor
  · rintro (h | h)
    · exact .inl h
    · exact .inr (by omega)
  · rintro (h | h)
    · exact .inl h
    · exact .inr (by omega)
set_option maxRecDepth 100000 in
set_option maxHeartbeats 1000000 in
theorem givenSet_any (p : Pr) (gb : Nat) (l : List Int) (al : Option Addr) (cl : Nat) (w : World) (hGA : GraphAt w p gb) (hp : p.types.length ≤ 6) (hI : InAt w Any l al) (hlen : l.length ≤ 1048576) :
    Calls Try.prog 70 #[.pointer (some ⟨gb, 0, none⟩), .slice al l.length cl] w (GivenW p l w) := by
  have HI := Lib.hid hI
  have HGP := Lib.hid hGA
  clear hI hGA
  go_enter Try.func70, Try.ntmps70
  go_wp2_with fail
  go_loopw [6, 11] (fun s i wr => ∃ k W : Nat, k ≤ l.length ∧ i = .int .i64 k ∧ s = .int .i64 W ∧ W < 2 ^ p.types.length ∧ (∀ v, W.testBit v = givenG (l.take k) v) ∧ (∀ x ∈ l.take k, (decide (0 ≤ x) && decide (x < p.types.length)) = true) ∧ w = wr) (fun _ i _ => l.length - (intOf i).toNat)
  case atStart => exact ⟨0, 0, Nat.zero_le _, rfl, rfl, Nat.two_pow_pos _, (fun v => by simp [givenG]), (fun x hx => by simp at hx), rfl⟩
  case round =>
    obtain ⟨k, W, hk, rfl, rfl, hWN, hW, hall, rfl⟩ := hrel
    have h26 : 2 ^ p.types.length ≤ 2 ^ 6 := Nat.pow_le_pow_right (by omega) hp
    have hW6 : W < 2 ^ 6 := Nat.lt_of_lt_of_le hWN h26
    have HWN := Lib.hid hWN
    have HW := Lib.hid hW
    have HA := Lib.hid hall
    clear hW hall h26 hWN
    by_cases hlt : k < l.length
    · obtain ⟨b1, o1, rfl, -, c5⟩ := HI.out.at hlt
      obtain ⟨x, hx⟩ : ∃ x, l[k] = x := ⟨_, rfl⟩
      rw [hx] at c5
      have HX := Lib.hid hx
      clear hx
      go_wp2_with fail
      refine (isVar_any p gb x _ HGP.out (by omega)).mono ?_
      rw [within_var]
      rintro e w2 ⟨rfl, rfl⟩
      cases hw : (decide (0 ≤ x) && decide (x < p.types.length)) with
      | false =>
        have HF := Lib.hid (show givenIn p l = false by
          unfold givenIn
          rw [List.all_eq_false]
          exact ⟨l[k], List.getElem_mem hlt, by rw [HX.out, hw]; simp⟩)
        clear hw
        go_wp2_with fail
        go_ret2
        refine ⟨?_, rfl⟩
        rw [HF.out]; rfl
      | true =>
        have HT := Lib.hid hw
        simp only [Bool.and_eq_true, decide_eq_true_eq] at hw
        obtain ⟨j, rfl⟩ := Int.eq_ofNat_of_zero_le hw.1
        have hjl : j < p.types.length := by omega
        have hj6 : j < 6 := by omega
        have hp2 : 2 ^ j < 2 ^ p.types.length := Nat.pow_lt_pow_right (by omega) hjl
        have hp6 : 2 ^ j < 2 ^ 6 := Nat.pow_lt_pow_right (by omega) hj6
        have hor : bits BinOp.or .i64 (W : Nat) (wrap64 (2 ^ j)) = ((W ||| 2 ^ j : Nat) : Int) := by
          rw [w64_pow (by omega)]; exact i64_or (by omega) (by omega)
        have HWN2 := Lib.hid (show W ||| 2 ^ j < 2 ^ p.types.length from Nat.or_lt_two_pow HWN.out hp2)
        have HN := Lib.hid (given_step hlt HX.out HW.out)
        have HA2 := Lib.hid (show ∀ x ∈ l.take (k + 1), (decide (0 ≤ x) && decide (x < p.types.length)) = true from fun x hx => by
          rw [List.take_succ_eq_append_getElem hlt, List.mem_append, List.mem_singleton] at hx
          rcases hx with hx | rfl
          · exact HA.out x hx
          · rw [HX.out]; exact HT.out)
        obtain ⟨W', hW'⟩ : ∃ W', W ||| 2 ^ j = W' := ⟨_, rfl⟩
        rw [hW'] at hor HN HWN2
        clear hw hW' hp2 hp6
        go_wp2_with fail
        go_roundw
        case rel => exact ⟨k + 1, W', by omega, by go_num, rfl, HWN2.out, HN.out, HA2.out, by trivial⟩
        case measure => simp [intOf]; omega
    · obtain rfl : k = l.length := by omega
      have HT := Lib.hid (show givenIn p l = true by
        unfold givenIn
        rw [List.all_eq_true]
        intro x hx
        exact HA.out x (by rw [List.take_of_length_le (Nat.le_refl _)]; exact hx))
      go_wp2_with fail
      go_ret2
      refine ⟨?_, rfl⟩
      rw [if_pos HT.out]
      exact ⟨W, rfl, HWN.out, fun v => by rw [HW.out, List.take_of_length_le (Nat.le_refl _)]⟩
set_option maxRecDepth 100000 in
set_option maxHeartbeats 1000000 in
theorem implAlwaysSet_any (p : Pr) (a : Int) (at' ab : Option Addr) (ct cb : Nat) (w : World) (hT : InAt w Any p.types at') (hB : SlAt w Any p.body ab) (hs : p.types.length ≤ 1048576) (hc : p.body.length ≤ 1048576) :
    Calls Try.prog 19 #[.agg #[.slice at' p.types.length ct, .slice ab p.body.length cb], .int .i64 a] w (HandI (alwaysOf p a) w) := by
  have hg1 : ∀ o o', Gr w ((w.alloc o).alloc o') none := fun o o' => ((Gr.refl _ _).alloc _).alloc _
  go_enter Try.func19, Try.ntmps19
  go_wp2_with fail
  refine (graphOf_any p [a] at' ab _ ct cb _ _ (hT.gr0 (hg1 _ _)) (hB.gr0 (hg1 _ _)) (inAt_one _ _ _) hs hc (by simp)).mono ?_
  rintro e w1 ⟨hg, hif⟩
  have hG1 : Gr w w1 none := (hg1 _ _).trans0 hg
  clear hg
  rw [graph_oneE] at hif
  by_cases hok : 0 ≤ a ∧ a < (ptsOf p).length
  · rw [if_pos (by simp [hok])] at hif
    obtain ⟨gb, rfl, hgb, hGA⟩ := hif
    obtain ⟨k, rfl⟩ := Int.eq_ofNat_of_zero_le hok.1
    have hk : k < (ptsOf p).length := by omega
    have hv : validP p = true := ptsOf_valid hok
    have hpp : ptsOf p = pts p := by unfold ptsOf; rw [if_pos hv]
    have HO := Lib.hid (alwaysOf_in hk)
    rw [hpp] at hk
    have hl : (pts p).length ≤ 61 := pts_len hv
    have h6 := valid_types hv
    have h26 : 2 ^ p.types.length ≤ 2 ^ 6 := Nat.pow_le_pow_right (by omega) h6
    have HV := Lib.hid hv
    clear hok hv hpp
    go_wp2_with fail
    refine (alwaysSet_any p gb 0 _ hGA HV.out (Nat.two_pow_pos _)).mono ?_
    rintro e w2 ⟨go, O, rfl, hW, hON, hN, hg2⟩
    have HB := Lib.hid (show coll (O k).testBit 6 = alwaysOf p k from by
      rw [HO.out]
      refine coll_bits' (fun v => ?_) (fun v hv => hasB_hi hv) h6
      rw [alls_bit hON hN, hasB_congr (g := noneG) (fun v _ => Nat.zero_testBit v)])
    have c0 := IRow.cell hW hk
    have h06 : O k < 2 ^ 6 := Nat.lt_of_lt_of_le (hON k) h26
    obtain ⟨x, hx⟩ : ∃ x, O k = x := ⟨_, rfl⟩
    rw [hx] at c0 HB h06
    clear hN hON hx hW h26
    go_wp2_with fail
    refine (bits_any x _ h06).mono ?_
    rw [HB.out]
    intro e w4 hh
    have hhh := HandI.aft hh (hG1.trans0 hg2)
    obtain ⟨a4, c4, rfl, -⟩ := hh
    have HH := Lib.hid hhh
    clear hhh
    go_wp2_with fail
    go_ret
    exact HH.out
  · rw [if_neg (by simp; omega)] at hif
    subst hif
    have HO := Lib.hid (alwaysOf_out hok)
    clear hok
    go_wp2_with fail
    go_ret
    rw [HO.out]
    exact HandI.nil _ _ hG1
set_option maxRecDepth 100000 in
set_option maxHeartbeats 1000000 in
theorem implMaybeSet_any (p : Pr) (a : Int) (at' ab : Option Addr) (ct cb : Nat) (w : World) (hT : InAt w Any p.types at') (hB : SlAt w Any p.body ab) (hs : p.types.length ≤ 1048576) (hc : p.body.length ≤ 1048576) :
    Calls Try.prog 26 #[.agg #[.slice at' p.types.length ct, .slice ab p.body.length cb], .int .i64 a] w (HandI (maybeOf p a) w) := by
  have hg1 : ∀ o o', Gr w ((w.alloc o).alloc o') none := fun o o' => ((Gr.refl _ _).alloc _).alloc _
  go_enter Try.func26, Try.ntmps26
  go_wp2_with fail
  refine (graphOf_any p [a] at' ab _ ct cb _ _ (hT.gr0 (hg1 _ _)) (hB.gr0 (hg1 _ _)) (inAt_one _ _ _) hs hc (by simp)).mono ?_
  rintro e w1 ⟨hg, hif⟩
  have hG1 : Gr w w1 none := (hg1 _ _).trans0 hg
  clear hg
  rw [graph_oneE] at hif
  by_cases hok : 0 ≤ a ∧ a < (ptsOf p).length
  · rw [if_pos (by simp [hok])] at hif
    obtain ⟨gb, rfl, hgb, hGA⟩ := hif
    obtain ⟨k, rfl⟩ := Int.eq_ofNat_of_zero_le hok.1
    have hk : k < (ptsOf p).length := by omega
    have hv : validP p = true := ptsOf_valid hok
    have hpp : ptsOf p = pts p := by unfold ptsOf; rw [if_pos hv]
    have HO := Lib.hid (maybeOf_in hk)
    rw [hpp] at hk
    have hl : (pts p).length ≤ 61 := pts_len hv
    have h6 := valid_types hv
    have HV := Lib.hid hv
    clear hok hv hpp
    go_wp2_with fail
    refine (maybeSet_any p gb _ hGA HV.out).mono ?_
    rintro e w2 ⟨go, O, rfl, hW, hO6, hN, hg2⟩
    have HB := Lib.hid (show coll (O k).testBit 6 = maybeOf p k from by
      rw [HO.out]
      refine coll_bits' (fun v => ?_) (fun v hv => mayB_hi HV.out hv) h6
      rw [Bool.eq_iff_iff, hN, mayB_iff])
    have c0 := IRow.cell hW hk
    have h06 := hO6 k
    obtain ⟨x, hx⟩ : ∃ x, O k = x := ⟨_, rfl⟩
    rw [hx] at c0 HB h06
    clear hN hO6 hx hW
    go_wp2_with fail
    refine (bits_any x _ h06).mono ?_
    rw [HB.out]
    intro e w4 hh
    have hhh := HandI.aft hh (hG1.trans0 hg2)
    obtain ⟨a4, c4, rfl, -⟩ := hh
    have HH := Lib.hid hhh
    clear hhh
    go_wp2_with fail
    go_ret
    exact HH.out
  · rw [if_neg (by simp; omega)] at hif
    subst hif
    have HO := Lib.hid (maybeOf_out hok)
    clear hok
    go_wp2_with fail
    go_ret
    rw [HO.out]
    exact HandI.nil _ _ hG1
set_option maxRecDepth 100000 in
set_option maxHeartbeats 1000000 in
theorem implUnsetUses_any (p : Pr) (at' ab : Option Addr) (ct cb : Nat) (w : World) (hT : InAt w Any p.types at') (hB : SlAt w Any p.body ab) (hs : p.types.length ≤ 1048576) (hc : p.body.length ≤ 1048576) :
    Calls Try.prog 30 #[.agg #[.slice at' p.types.length ct, .slice ab p.body.length cb]] w (HandI (unsetOf p) w) := by
  have hg1 : ∀ o, Gr w (w.alloc o) none := fun o => (Gr.refl _ _).alloc _
  go_enter Try.func30, Try.ntmps30
  go_wp2_with fail
  refine (graphOf_any p [] at' ab none ct cb 0 _ (hT.gr0 (hg1 _)) (hB.gr0 (hg1 _)) (by simp [InAt]) hs hc (by simp)).mono ?_
  rintro e w1 ⟨hg, hif⟩
  have hG1 : Gr w w1 none := (hg1 _).trans0 hg
  clear hg
  rw [graphOk_none] at hif
  cases hv : validP p with
  | false =>
    rw [hv, if_neg (by simp)] at hif
    subst hif
    have HO := Lib.hid (unsetOf_out hv)
    clear hv
    go_wp2_with fail
    go_ret
    rw [HO.out]
    exact HandI.nil _ _ hG1
  | true =>
    rw [hv, if_pos rfl] at hif
    obtain ⟨gb, rfl, hgb, hGA⟩ := hif
    have HO := Lib.hid (show coll (lackB p (0 : Nat).testBit) (pts p).length = unsetOf p by rw [unsetOf_in hv, lackB_congr (g := noneG) (fun v _ => Nat.zero_testBit v)])
    have HV := Lib.hid hv
    clear hv
    go_wp2_with fail
    refine (unset_any p gb 0 _ hGA HV.out (Nat.two_pow_pos _)).mono ?_
    rw [HO.out]
    intro e w4 hh
    have hhh := HandI.aft hh hG1
    obtain ⟨a4, c4, rfl, -⟩ := hh
    have HH := Lib.hid hhh
    clear hhh
    go_wp2_with fail
    go_ret
    exact HH.out
set_option maxRecDepth 100000 in
set_option maxHeartbeats 1000000 in
theorem implOpenIssues_any (p : Pr) (l : List Int) (at' ab al : Option Addr) (ct cb cl : Nat) (w : World) (hT : InAt w Any p.types at') (hB : SlAt w Any p.body ab) (hs : p.types.length ≤ 1048576) (hc : p.body.length ≤ 1048576) (hI : InAt w Any l al) (hlen : l.length ≤ 1048576) :
    Calls Try.prog 35 #[.agg #[.slice at' p.types.length ct, .slice ab p.body.length cb], .slice al l.length cl] w (HandI (openOf p l) w) := by
  have hg1 : ∀ o, Gr w (w.alloc o) none := fun o => (Gr.refl _ _).alloc _
  have HI := Lib.hid hI
  clear hI
  go_enter Try.func35, Try.ntmps35
  go_wp2_with fail
  refine (graphOf_any p [] at' ab none ct cb 0 _ (hT.gr0 (hg1 _)) (hB.gr0 (hg1 _)) (by simp [InAt]) hs hc (by simp)).mono ?_
  rintro e w1 ⟨hg, hif⟩
  have hG1 : Gr w w1 none := (hg1 _).trans0 hg
  clear hg
  rw [graphOk_none] at hif
  cases hv : validP p with
  | false =>
    rw [hv, if_neg (by simp)] at hif
    subst hif
    have HO := Lib.hid (openOf_out (p := p) (l := l) (by rw [hv]; simp))
    clear hv
    go_wp2_with fail
    go_ret
    rw [HO.out]
    exact HandI.nil _ _ hG1
  | true =>
    rw [hv, if_pos rfl] at hif
    obtain ⟨gb, rfl, hgb, hGA⟩ := hif
    have h6 := valid_types hv
    have HV := Lib.hid hv
    have HGP := Lib.hid hGA
    clear hv
    go_wp2_with fail
    refine (givenSet_any p gb l al cl _ hGA h6 (HI.out.gr0 hG1) hlen).mono ?_
    rintro e w2 ⟨hif, rfl⟩
    cases hgi : givenIn p l with
    | false =>
      rw [hgi, if_neg (by simp)] at hif
      subst hif
      have HO := Lib.hid (openOf_out (p := p) (l := l) (by rw [hgi]; simp))
      clear hgi
      go_wp2_with fail
      go_ret
      rw [HO.out]
      exact HandI.nil _ _ hG1
    | true =>
      rw [hgi, if_pos rfl] at hif
      obtain ⟨f, rfl, hf, hfb⟩ := hif
      have HO := Lib.hid (show coll (lackB p f.testBit) (pts p).length = openOf p l by rw [openOf_in HV.out hgi, lackB_congr (g := givenG l) (fun v _ => hfb v)])
      clear hgi hfb
      go_wp2_with fail
      refine (unset_any p gb f _ hGA HV.out hf).mono ?_
      rw [HO.out]
      intro e w4 hh
      have hhh := HandI.aft hh hG1
      obtain ⟨a4, c4, rfl, -⟩ := hh
      have HH := Lib.hid hhh
      clear hhh
      go_wp2_with fail
      go_ret
      exact HH.out
set_option maxRecDepth 100000 in
set_option maxHeartbeats 1000000 in
theorem implGivesOf_any (p : Pr) (l : List Int) (at' ab al : Option Addr) (ct cb cl : Nat) (w : World) (hT : InAt w Any p.types at') (hB : SlAt w Any p.body ab) (hs : p.types.length ≤ 1048576) (hc : p.body.length ≤ 1048576) (hI : InAt w Any l al) (hlen : l.length ≤ 1048576) :
    Calls Try.prog 33 #[.agg #[.slice at' p.types.length ct, .slice ab p.body.length cb], .slice al l.length cl] w (HandI (givesOf p l) w) := by
  have hg1 : ∀ o, Gr w (w.alloc o) none := fun o => (Gr.refl _ _).alloc _
  have HI := Lib.hid hI
  clear hI
  go_enter Try.func33, Try.ntmps33
  go_wp2_with fail
  refine (graphOf_any p [] at' ab none ct cb 0 _ (hT.gr0 (hg1 _)) (hB.gr0 (hg1 _)) (by simp [InAt]) hs hc (by simp)).mono ?_
  rintro e w1 ⟨hg, hif⟩
  have hG1 : Gr w w1 none := (hg1 _).trans0 hg
  clear hg
  rw [graphOk_none] at hif
  cases hv : validP p with
  | false =>
    rw [hv, if_neg (by simp)] at hif
    subst hif
    have HO := Lib.hid (givesOf_out (p := p) (l := l) (by rw [hv]; simp))
    clear hv
    go_wp2_with fail
    go_ret
    rw [HO.out]
    exact HandI.nil _ _ hG1
  | true =>
    rw [hv, if_pos rfl] at hif
    obtain ⟨gb, rfl, hgb, hGA⟩ := hif
    have h6 := valid_types hv
    have HV := Lib.hid hv
    have HGP := Lib.hid hGA
    clear hv
    go_wp2_with fail
    refine (givenSet_any p gb l al cl _ hGA h6 (HI.out.gr0 hG1) hlen).mono ?_
    rintro e w2 ⟨hif, rfl⟩
    cases hgi : givenIn p l with
    | false =>
      rw [hgi, if_neg (by simp)] at hif
      subst hif
      have HO := Lib.hid (givesOf_out (p := p) (l := l) (by rw [hgi]; simp))
      clear hgi
      go_wp2_with fail
      go_ret
      rw [HO.out]
      exact HandI.nil _ _ hG1
    | true =>
      rw [hgi, if_pos rfl] at hif
      obtain ⟨f, rfl, hf, hfb⟩ := hif
      have HO := Lib.hid (givesOf_in HV.out hgi)
      have HFB := Lib.hid hfb
      have HF := Lib.hid hf
      have h26 : 2 ^ p.types.length ≤ 2 ^ 6 := Nat.pow_le_pow_right (by omega) h6
      have H26 := Lib.hid h26
      have hl : (pts p).length ≤ 61 := pts_len HV.out
      have hl0 := pts_pos' p
      obtain ⟨L, a3, n3, a4, n4, al', cl', hLL, d0, d1, d2, hr1, hr2, hr3⟩ := hGA
      have HLL := Lib.hid hLL
      rw [← hLL] at hl hl0
      obtain ⟨n, hn⟩ : ∃ n, L.length = n := ⟨_, rfl⟩
      rw [hn] at d2 hl hl0
      obtain ⟨m, hm⟩ : ∃ m, n = m + 1 := ⟨n - 1, by omega⟩
      have hmm : ((n : Int) - 1) = (m : Int) := by omega
      have hmn : m < n := by omega
      have hwm : IntKind.i64.wrap (m : Int) = (m : Int) := wraps_i64 _ (Int.natCast_nonneg _) (by omega)
      have HM := Lib.hid (hn.trans hm)
      have HN := Lib.hid hn
      clear hgi hfb hLL d0 d1 hr1 hr2 hr3 h26 hf hl0 hm hn
      go_wp2_with fail
      go_region_with (first | (go_at_call 61; refine (alwaysSet_any p gb f _ (by exact HGP.out.gr ((Gr.refl _ _).drew)) HV.out HF.out).mono ?_; rintro e w2 ⟨go, O, rfl, hW, hON, hN, hg2⟩; have e2 := hg2.cell d2 (by simp); have HB := Lib.hid (show coll (O m).testBit 6 = givesOf p l from (by rw [HO.out, ← HLL.out, HM.out, Nat.add_sub_cancel]; refine coll_bits' (fun v => ?_) (fun v hv => hasB_hi hv) h6; rw [alls_bit hON hN, hasB_congr (g := givenG l) (fun v _ => HFB.out v)])); rw [← HLL.out, HN.out] at hW ⊢; have c0 := IRow.cell hW (j := m) (by omega); have h06 : O m < 2 ^ 6 := Nat.lt_of_lt_of_le (hON m) H26.out; obtain ⟨x, hx⟩ : ∃ x, O m = x := ⟨_, rfl⟩; rw [hx] at c0 HB h06; clear hN hON hx hW; have HG2 := Lib.hid hg2; clear hg2) | (go_at_call 60; refine (bits_any x _ h06).mono ?_; rw [HB.out]; intro e w4 hh; have hhh := HandI.aft hh (hG1.trans0 ((Gr.refl _ _).drew.trans0 HG2.out)); obtain ⟨a4, c4, rfl, -⟩ := hh; have HH := Lib.hid hhh; clear hhh))
      all_goals
        go_wp2_with fail
        go_ret
        exact HH.out
end Go.Proofs.Ytadlnjglpigjmaa
