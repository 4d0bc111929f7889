/- Walks of LiveAfter, NeedsOf, TakesOf of the program. -/
import Derived.Test.YtdnhinkjmjpnnaaDC

namespace Go.Proofs.Ytdnhinkjmjpnnaa

open Go.RowKit

open Classical in

/-- What is used from a point on, before it is set; and behind it. -/
noncomputable def needB (p : Pr) (i v : Nat) : Bool := decide (Least (NeedS (pts p) (usL p.types (pts p)) (nsL (pts p))) i v)
open Classical in

noncomputable def liveB (p : Pr) (i v : Nat) : Bool := decide (Least (BackS (pts p) (usL p.types (pts p)) (nsL (pts p))) i v)
theorem needB_iff {p : Pr} {i v : Nat} : needB p i v = true ↔ Least (NeedS (pts p) (usL p.types (pts p)) (nsL (pts p))) i v := by unfold needB; simp
theorem liveB_iff {p : Pr} {i v : Nat} : liveB p i v = true ↔ Least (BackS (pts p) (usL p.types (pts p)) (nsL (pts p))) i v := by unfold liveB; simp
theorem liveB_next {p : Pr} {i v : Nat} (hi : i < (pts p).length) : liveB p i v = (nextOf (pts p) i).any fun k => needB p k v := by
  rw [Bool.eq_iff_iff, liveB_iff, List.any_eq_true, back_need (pts_next p) hi]
  exact ⟨fun ⟨k, h1, h2⟩ => ⟨k, h1, needB_iff.2 h2⟩, fun ⟨k, h1, h2⟩ => ⟨k, h1, needB_iff.1 h2⟩⟩
theorem needB_at {p : Pr} {i v : Nat} (hi : i < (pts p).length) : needB p i v = (usL p.types (pts p) i v || (nsL (pts p) i v && liveB p i v)) := by
  rw [Bool.eq_iff_iff, needB_iff, Bool.or_eq_true, Bool.and_eq_true, liveB_iff, need_at (pts_next p) hi]
theorem usL_hi {T : List Int} {L : List Pt} {i v : Nat} (h : T.length ≤ v) : usL T L i v = false := useB_out h
theorem needB_hi {p : Pr} {i v : Nat} (h : p.types.length ≤ v) : needB p i v = false := by
  cases hb : needB p i v with
  | false => rfl
  | true =>
    have := needB_iff.1 hb (fun i v => v < p.types.length) (by
      rintro i v ⟨hi, hu | ⟨hk, k, hn, hx⟩⟩
      · rcases Nat.lt_or_ge v p.types.length with h | h
        · exact h
        · rw [usL_hi h] at hu; cases hu
      · exact hx)
    omega
theorem liveB_hi {p : Pr} {i v : Nat} (hi : i < (pts p).length) (h : p.types.length ≤ v) : liveB p i v = false := by
  rw [liveB_next hi, List.any_eq_false]
  intro k _
  rw [needB_hi h]; simp
/-- What LiveAfter, NeedsOf, TakesOf say. -/
noncomputable def liveOf (p : Pr) (a : Int) : List Int := if 0 ≤ a ∧ a < (ptsOf p).length then coll (liveB p a.toNat) p.types.length else []
noncomputable def needsOf (p : Pr) : List Int := if validP p = true then coll (needB p 0) p.types.length else []
noncomputable def takesOf (p : Pr) : List Int := if validP p = true then coll (fun v => (pts p).any fun q => takesB p.types q.op q.x q.y v) p.types.length else []
theorem liveOf_in {p : Pr} {a : Nat} (h : a < (ptsOf p).length) : liveOf p a = coll (liveB p a) p.types.length := by unfold liveOf; rw [if_pos (by omega)]; rfl
theorem liveOf_out {p : Pr} {a : Int} (h : ¬ (0 ≤ a ∧ a < (ptsOf p).length)) : liveOf p a = [] := by unfold liveOf; rw [if_neg h]
theorem needsOf_in {p : Pr} (h : validP p = true) : needsOf p = coll (needB p 0) p.types.length := by unfold needsOf; rw [if_pos h]
theorem needsOf_out {p : Pr} (h : validP p = false) : needsOf p = [] := by unfold needsOf; rw [h]; rfl
theorem takesOf_in {p : Pr} (h : validP p = true) : takesOf p = coll (fun v => (pts p).any fun q => takesB p.types q.op q.x q.y v) p.types.length := by unfold takesOf; rw [if_pos h]
theorem takesOf_out {p : Pr} (h : validP p = false) : takesOf p = [] := by unfold takesOf; rw [h]; rfl
theorem valid_pos {p : Pr} (h : 0 < (ptsOf p).length) : validP p = true := by
  cases hv : validP p with
  | true => rfl
  | false => unfold ptsOf at h; rw [hv] at h; simp at h
theorem liveOf_len (p : Pr) (a : Int) : (liveOf p a).length ≤ 1048576 := by
  unfold liveOf
  split
  · rename_i h
    have := coll_len (liveB p a.toNat) p.types.length
    have := valid_types (valid_pos (p := p) (by omega))
    omega
  · simp
theorem needsOf_len (p : Pr) : (needsOf p).length ≤ 1048576 := by
  unfold needsOf
  split
  · rename_i h
    have := coll_len (needB p 0) p.types.length
    have := valid_types h
    omega
  · simp
theorem takesOf_len (p : Pr) : (takesOf p).length ≤ 1048576 := by
  unfold takesOf
  split
  · rename_i h
    have := coll_len (fun v => (pts p).any fun q => takesB p.types q.op q.x q.y v) p.types.length
    have := valid_types h
    omega
  · simp
/-- The bits of a word that has none from n on. -/
theorem coll_bits {W n : Nat} {f : Nat → Bool} (h : ∀ v, W.testBit v = f v) (hf : ∀ v, n ≤ v → f v = false) (hn : n ≤ 6) : coll W.testBit 6 = coll f n := by
  rw [coll_congr (F := W.testBit) (G := f) (fun k _ => h k), coll_up hf 6 hn]
theorem graph_one {p : Pr} {a : Int} : graphOk p [a] = (decide (0 ≤ a) && decide (a < (ptsOf p).length)) := by
  unfold graphOk ptsOf
  cases hv : validP p with
  | true =>
    simp only [within, List.all_cons, List.all_nil, Bool.and_true, Bool.true_and, if_pos]
    congr 1
    apply decide_eq_decide.2
    omega
  | false =>
    rw [Bool.false_and, if_neg (by simp)]
    symm
    rw [Bool.and_eq_false_iff, decide_eq_false_iff_not, decide_eq_false_iff_not]
    simp only [List.length_nil]
    omega
theorem any_congr' {α : Type} {l : List α} {f g : α → Bool} (h : ∀ a, f a = g a) : l.any f = l.any g := by rw [show f = g from funext h]
set_option maxRecDepth 100000 in
set_option maxHeartbeats 1000000 in
theorem implLiveAfter_any (p : Pr) (a : Int) (at' ab : Option Addr) (ct cb : Nat) (w : World) (hT : InAt w Any p.types at') (hB : SlAt w Any p.body ab) (hs : p.types.length ≤ 1048576) (hc : p.body.length ≤ 1048576) :
    Calls Try.prog 52 #[.agg #[.slice at' p.types.length ct, .slice ab p.body.length cb], .int .i64 a] w (HandI (liveOf p a) w) := by
  have hg1 : ∀ o o', Gr w ((w.alloc o).alloc o') none := fun o o' => ((Gr.refl _ _).alloc _).alloc _
  go_enter Try.func52, Try.ntmps52
  go_wp2_with fail
  refine (graphOf_any p [a] at' ab _ ct cb _ _ (hT.gr0 (hg1 _ _)) (hB.gr0 (hg1 _ _)) (inAt_one _ _ _) hs hc (by simp)).mono ?_
  rintro e w1 ⟨hg, hif⟩
  have hG1 : Gr w w1 none := (hg1 _ _).trans0 hg
  clear hg
  rw [graph_one] at hif
  by_cases hok : 0 ≤ a ∧ a < (ptsOf p).length
  · rw [if_pos (by simp [hok])] at hif
    obtain ⟨gb, rfl, hgb, hGA⟩ := hif
    obtain ⟨k, rfl⟩ := Int.eq_ofNat_of_zero_le hok.1
    have hk : k < (ptsOf p).length := by omega
    have hv : validP p = true := valid_pos (by omega)
    have hpp : ptsOf p = pts p := by unfold ptsOf; rw [if_pos hv]
    have HO := Lib.hid (liveOf_in hk)
    rw [hpp] at hk
    have hl : (pts p).length ≤ 61 := pts_len hv
    have h6 := valid_types hv
    have HV := Lib.hid hv
    clear hok hv hpp
    go_wp2_with fail
    refine (needed_any p gb _ hGA HV.out).mono ?_
    rintro e w2 ⟨go, O, rfl, hW, hO6, hN, hg2⟩
    have HN := Lib.hid hN
    clear hN
    go_wp2_with fail
    refine (after_any p gb go _ k O _ (hGA.gr hg2) hW hO6 hk (by omega)).mono ?_
    rintro e w3 ⟨W, rfl, hWb, hW6, hg3⟩
    have HB := Lib.hid (show coll W.testBit 6 = liveOf p k from by
      rw [HO.out]
      refine coll_bits (fun v => ?_) (fun v hv => liveB_hi hk hv) h6
      rw [hWb, liveB_next hk]
      refine any_congr' fun j => ?_
      rw [Bool.eq_iff_iff, HN.out, needB_iff])
    clear hWb
    go_wp2_with fail
    refine (bits_any W _ hW6).mono ?_
    rw [HB.out]
    intro e w4 hh
    have hhh := HandI.aft hh ((hG1.trans0 hg2).trans0 hg3)
    obtain ⟨a4, c4, rfl, -⟩ := hh
    have HH := Lib.hid hhh
    clear hhh
    go_wp2_with fail
    go_ret
    exact HH.out
  · rw [if_neg (by simp; omega)] at hif
    subst hif
    have HO := Lib.hid (liveOf_out hok)
    clear hok
    go_wp2_with fail
    go_ret
    rw [HO.out]
    exact HandI.nil _ _ hG1
set_option maxRecDepth 100000 in
set_option maxHeartbeats 1000000 in
theorem implNeedsOf_any (p : Pr) (at' ab : Option Addr) (ct cb : Nat) (w : World) (hT : InAt w Any p.types at') (hB : SlAt w Any p.body ab) (hs : p.types.length ≤ 1048576) (hc : p.body.length ≤ 1048576) :
    Calls Try.prog 50 #[.agg #[.slice at' p.types.length ct, .slice ab p.body.length cb]] w (HandI (needsOf p) w) := by
  have hg1 : ∀ o, Gr w (w.alloc o) none := fun o => (Gr.refl _ _).alloc _
  go_enter Try.func50, Try.ntmps50
  go_wp2_with fail
  refine (graphOf_any p [] at' ab none ct cb 0 _ (hT.gr0 (hg1 _)) (hB.gr0 (hg1 _)) (by simp [InAt]) hs hc (by simp)).mono ?_
  rintro e w1 ⟨hg, hif⟩
  have hG1 : Gr w w1 none := (hg1 _).trans0 hg
  clear hg
  rw [graphOk_none] at hif
  cases hv : validP p with
  | false =>
    rw [hv, if_neg (by simp)] at hif
    subst hif
    have HO := Lib.hid (needsOf_out hv)
    clear hv
    go_wp2_with fail
    go_ret
    rw [HO.out]
    exact HandI.nil _ _ hG1
  | true =>
    rw [hv, if_pos rfl] at hif
    obtain ⟨gb, rfl, hgb, hGA⟩ := hif
    have h6 := valid_types hv
    have hpos := pts_pos' p
    have HO := Lib.hid (needsOf_in hv)
    have HV := Lib.hid hv
    clear hv
    go_wp2_with fail
    refine (needed_any p gb _ hGA HV.out).mono ?_
    rintro e w2 ⟨go, O, rfl, hW, hO6, hN, hg2⟩
    have HB := Lib.hid (show coll (O 0).testBit 6 = needsOf p from by
      rw [HO.out]
      refine coll_bits (fun v => ?_) (fun v hv => needB_hi hv) h6
      rw [Bool.eq_iff_iff, hN, needB_iff])
    have c0 := IRow.cell hW hpos
    have h06 := hO6 0
    obtain ⟨x, hx⟩ : ∃ x, O 0 = x := ⟨_, rfl⟩
    rw [hx] at c0 HB h06
    clear hN hO6 hx hW
    go_wp2_with fail
    refine (bits_any x _ h06).mono ?_
    rw [HB.out]
    intro e w4 hh
    have hhh := HandI.aft hh (hG1.trans0 hg2)
    obtain ⟨a4, c4, rfl, -⟩ := hh
    have HH := Lib.hid hhh
    clear hhh
    go_wp2_with fail
    go_ret
    exact HH.out
set_option maxRecDepth 100000 in
set_option maxHeartbeats 1000000 in
theorem implTakesOf_any (p : Pr) (at' ab : Option Addr) (ct cb : Nat) (w : World) (hT : InAt w Any p.types at') (hB : SlAt w Any p.body ab) (hs : p.types.length ≤ 1048576) (hc : p.body.length ≤ 1048576) :
    Calls Try.prog 48 #[.agg #[.slice at' p.types.length ct, .slice ab p.body.length cb]] w (HandI (takesOf p) w) := by
  have hg1 : ∀ o, Gr w (w.alloc o) none := fun o => (Gr.refl _ _).alloc _
  go_enter Try.func48, Try.ntmps48
  go_wp2_with fail
  refine (graphOf_any p [] at' ab none ct cb 0 _ (hT.gr0 (hg1 _)) (hB.gr0 (hg1 _)) (by simp [InAt]) hs hc (by simp)).mono ?_
  rintro e w1 ⟨hg, hif⟩
  have hG1 : Gr w w1 none := (hg1 _).trans0 hg
  clear hg
  rw [graphOk_none] at hif
  cases hv : validP p with
  | false =>
    rw [hv, if_neg (by simp)] at hif
    subst hif
    have HO := Lib.hid (takesOf_out hv)
    clear hv
    go_wp2_with fail
    go_ret
    rw [HO.out]
    exact HandI.nil _ _ hG1
  | true =>
    rw [hv, if_pos rfl] at hif
    obtain ⟨gb, rfl, hgb, hGA⟩ := hif
    have h6 := valid_types hv
    have hl : (pts p).length ≤ 61 := pts_len hv
    have HO := Lib.hid (takesOf_in hv)
    have HG := Lib.hid hGA
    obtain ⟨L, a3, n3, a4, n4, al, cl, hL, d0, d1, d2, hr1, hr2, hr3⟩ := hGA
    rw [← hL] at hl HO
    have HR := Lib.hid hr3
    clear hv hL d0 d1 hr1 hr2 hr3
    go_wp2_with fail
    go_loopw [5, 20] (fun s i wr => ∃ k W : Nat, k ≤ L.length ∧ i = .int .i64 k ∧ s = .int .i64 W ∧ W < 2 ^ 6 ∧ (∀ v, W.testBit v = (L.take k).any fun q => takesB p.types q.op q.x q.y v) ∧ Gr w1 wr none) (fun _ i _ => L.length - (intOf i).toNat)
    case atStart => exact ⟨0, 0, Nat.zero_le _, rfl, rfl, by omega, fun v => by simp, Gr.refl _ _⟩
    case round =>
      obtain ⟨k, W, hk, rfl, rfl, hW6, hW, hg⟩ := hrel
      have HW := Lib.hid hW
      clear hW
      by_cases hlt : k < L.length
      · obtain ⟨b, po, rfl, an, cn, c0, c1, c2, c3, c4, -, -⟩ := (HR.out.gr hg) k hlt
        obtain ⟨q, eq⟩ : ∃ q, L[k] = q := ⟨_, rfl⟩
        rw [eq] at c0 c1 c2 c3 c4
        have HE := Lib.hid eq
        obtain ⟨nn, hnn⟩ : ∃ nn, q.next.length = nn := ⟨_, rfl⟩
        rw [hnn] at c4
        clear eq hnn d2
        go_wp2_with fail
        refine (taken_any p gb q.op q.x q.y q.n (.slice an nn cn) _ (HG.out.gr (hg.alloc _)) h6).mono ?_
        rintro e w2 ⟨W2, rfl, hW2, hl2, hg2⟩
        have hor : bits BinOp.or .i64 (W : Nat) (W2 : Nat) = ((W ||| W2 : Nat) : Int) := i64_or (by omega) (by omega)
        have HN := Lib.hid (show ∀ v, (W ||| W2).testBit v = (L.take (k + 1)).any fun q => takesB p.types q.op q.x q.y v from fun v => by
          rw [Nat.testBit_or, HW.out, hW2, List.take_succ_eq_append_getElem hlt, List.any_append, HE.out]; simp)
        have hW' : W ||| W2 < 2 ^ 6 := Nat.or_lt_two_pow hW6 hl2
        obtain ⟨W', hWW⟩ : ∃ W', W ||| W2 = W' := ⟨_, rfl⟩
        rw [hWW] at hor hW' HN
        clear hWW hW2
        go_wp2_with fail
        go_roundw
        case rel => exact ⟨k + 1, W', by omega, by go_num, rfl, hW', HN.out, (hg.alloc _).trans0 hg2⟩
        case measure => simp [intOf]; omega
      · obtain rfl : k = L.length := by omega
        have HB := Lib.hid (show coll W.testBit 6 = takesOf p from by
          rw [HO.out]
          refine coll_bits (fun v => ?_) (fun v hv => ?_) h6
          · rw [HW.out, List.take_of_length_le (Nat.le_refl _)]
          · rw [List.any_eq_false]
            intro q _
            rw [show takesB p.types q.op q.x q.y v = false from useB_out hv]; simp)
        go_wp2_with fail
        refine (bits_any W _ hW6).mono ?_
        rw [HB.out]
        intro e w4 hh
        have hhh := HandI.aft hh (hG1.trans0 hg)
        obtain ⟨a4, c4, rfl, -⟩ := hh
        have HH := Lib.hid hhh
        clear hhh
        go_wp2_with fail
        go_ret
        exact HH.out
end Go.Proofs.Ytdnhinkjmjpnnaa
