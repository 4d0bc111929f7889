/- ForwardLoad of the program. -/
import Derived.Test.YtdnhinkjmjpnnaaFI

import Derived.Test.YtdnhinkjmjpnnaaFQ

namespace Go.Proofs.Ytdnhinkjmjpnnaa

open Go.RowKit

def fwdOf (p : Pr) (k : Int) : Pr × Bool :=
  if hasPairP p k then match p.body[k.toNat]?, p.body[k.toNat + 1]? with
    | some a, some b => if fwdAt a b then (⟨p.types, p.body.set (k.toNat + 1) (.mk 3 b.x a.y 0 [] [])⟩, true) else (⟨[], []⟩, false)
    | _, _ => (⟨[], []⟩, false)
  else (⟨[], []⟩, false)
/-- A program and a truth are handed back. -/
def ProgOk (q : Pr) (b : Bool) (w : World) (e : Ending) (w' : World) : Prop := ∃ (at' ab : Option Addr) (ct cb : Nat),
  e = .returned (.tuple #[.agg #[.slice at' q.types.length ct, .slice ab q.body.length cb], .bool b]) ∧ InAt w' Any q.types at' ∧ SlAt w' Any q.body ab ∧ Gr w w' none
theorem hasPairP_in {p : Pr} {k : Int} (h : hasPairP p k = true) : ∃ j : Nat, k = j ∧ j + 1 < p.body.length ∧ validP p = true := by
  unfold hasPairP at h
  simp only [Bool.and_eq_true, decide_eq_true_eq] at h
  exact ⟨k.toNat, by omega, by omega, h.1⟩
theorem fwdOf_out {p : Pr} {k : Int} (h : hasPairP p k = false) : fwdOf p k = (⟨[], []⟩, false) := by unfold fwdOf; rw [if_neg (by simp [h])]
theorem fwdOf_in {p : Pr} {k : Nat} (h : hasPairP p k = true) (hk : k + 1 < p.body.length) : fwdOf p k = if fwdAt (p.body[k]'(by omega)) p.body[k + 1] then (⟨p.types, p.body.set (k + 1) (.mk 3 p.body[k + 1].x (p.body[k]'(by omega)).y 0 [] [])⟩, true) else (⟨[], []⟩, false) := by
  unfold fwdOf
  rw [if_pos h]
  simp only [Int.toNat_natCast]
  rw [List.getElem?_eq_getElem (show k < p.body.length by omega), List.getElem?_eq_getElem hk]
theorem Z6.set0 {w : World} {b : Nat} {v0 v1 v2 v3 v4 v5 : Value} (h : Z6 w b v0 v1 v2 v3 v4 v5) (u : Value) : Z6 (w.setCell ⟨b, 0, none⟩ u) b u v1 v2 v3 v4 v5 := by
  obtain ⟨h0, h1, h2, h3, h4, h5, hf⟩ := h
  exact ⟨World.cell?_setCell_same _ _ _ h0, by rw [World.cell?_setCell_other _ _ _ _ (by simp)]; exact h1, by rw [World.cell?_setCell_other _ _ _ _ (by simp)]; exact h2, by rw [World.cell?_setCell_other _ _ _ _ (by simp)]; exact h3, by rw [World.cell?_setCell_other _ _ _ _ (by simp)]; exact h4, by rw [World.cell?_setCell_other _ _ _ _ (by simp)]; exact h5, fun o => by simpa [World.frozen?_setCell] using hf o⟩
theorem Z6.set1 {w : World} {b : Nat} {v0 v1 v2 v3 v4 v5 : Value} (h : Z6 w b v0 v1 v2 v3 v4 v5) (u : Value) : Z6 (w.setCell ⟨b, 1, none⟩ u) b v0 u v2 v3 v4 v5 := by
  obtain ⟨h0, h1, h2, h3, h4, h5, hf⟩ := h
  exact ⟨by rw [World.cell?_setCell_other _ _ _ _ (by simp)]; exact h0, World.cell?_setCell_same _ _ _ h1, by rw [World.cell?_setCell_other _ _ _ _ (by simp)]; exact h2, by rw [World.cell?_setCell_other _ _ _ _ (by simp)]; exact h3, by rw [World.cell?_setCell_other _ _ _ _ (by simp)]; exact h4, by rw [World.cell?_setCell_other _ _ _ _ (by simp)]; exact h5, fun o => by simpa [World.frozen?_setCell] using hf o⟩
theorem Z6.set2 {w : World} {b : Nat} {v0 v1 v2 v3 v4 v5 : Value} (h : Z6 w b v0 v1 v2 v3 v4 v5) (u : Value) : Z6 (w.setCell ⟨b, 2, none⟩ u) b v0 v1 u v3 v4 v5 := by
  obtain ⟨h0, h1, h2, h3, h4, h5, hf⟩ := h
  exact ⟨by rw [World.cell?_setCell_other _ _ _ _ (by simp)]; exact h0, by rw [World.cell?_setCell_other _ _ _ _ (by simp)]; exact h1, World.cell?_setCell_same _ _ _ h2, by rw [World.cell?_setCell_other _ _ _ _ (by simp)]; exact h3, by rw [World.cell?_setCell_other _ _ _ _ (by simp)]; exact h4, by rw [World.cell?_setCell_other _ _ _ _ (by simp)]; exact h5, fun o => by simpa [World.frozen?_setCell] using hf o⟩
theorem Z6.set3 {w : World} {b : Nat} {v0 v1 v2 v3 v4 v5 : Value} (h : Z6 w b v0 v1 v2 v3 v4 v5) (u : Value) : Z6 (w.setCell ⟨b, 3, none⟩ u) b v0 v1 v2 u v4 v5 := by
  obtain ⟨h0, h1, h2, h3, h4, h5, hf⟩ := h
  exact ⟨by rw [World.cell?_setCell_other _ _ _ _ (by simp)]; exact h0, by rw [World.cell?_setCell_other _ _ _ _ (by simp)]; exact h1, by rw [World.cell?_setCell_other _ _ _ _ (by simp)]; exact h2, World.cell?_setCell_same _ _ _ h3, by rw [World.cell?_setCell_other _ _ _ _ (by simp)]; exact h4, by rw [World.cell?_setCell_other _ _ _ _ (by simp)]; exact h5, fun o => by simpa [World.frozen?_setCell] using hf o⟩
theorem Z6.six {w : World} {b : Nat} {v0 v1 v2 v3 v4 v5 : Value} (h : Z6 w b v0 v1 v2 v3 v4 v5) (u0 u1 u2 u3 u4 u5 : Value) : Z6 (putSix w b 0 u0 u1 u2 u3 u4 u5) b u0 u1 u2 u3 u4 u5 :=
  (((((h.set0 u0).set1 u1).set2 u2).set3 u3).set4 u4).set5 u5
theorem fwd_ret {R : Ending → World → Prop} {tmps : Array Value} {u : World} {b : Nat} {x0 x1 : Value} (hz : Zp u b x0 x1) {v0 v1 v3 : Value} (ht : tmps.getD 4 undef = .pointer (some ⟨b, 0, none⟩)) (h3 : tmps.getD 5 undef = v3) (h : R (.returned (.tuple #[.agg #[v0, v1], v3])) (put2 u b v0 v1)) :
    bodyPost Try.prog Try.f56 R .ret { tmps := tmps, defers := [] } (put2 u b v0 v1) := by
  obtain ⟨c0, c1⟩ := hz.put2 v0 v1
  generalize put2 u b v0 v1 = W at *
  have ht' : tmps[4]?.getD undef = .pointer (some ⟨b, 0, none⟩) := by simpa using ht
  have h3' : tmps[5]?.getD undef = v3 := by simpa using h3
  refine bodyPost_ret (v := .tuple #[.agg #[v0, v1], v3]) ?_ rfl h
  simp [results, Try.results56, go_sem, ht', h3', c0, c1]
/-- Nothing is handed back. -/
theorem ProgOk.no {w u : World} {b : Nat} (hg : Gr w u none) (hb : w.heap.size ≤ b) : ProgOk ⟨[], []⟩ false w (.returned (.tuple #[.agg #[.slice none 0 0, .slice none 0 0], .bool false])) (put2 u b (.slice none 0 0) (.slice none 0 0)) :=
  ⟨none, none, 0, 0, rfl, by simp [InAt], by simp [SlAt], put2_gr hg hb⟩
/-- The copy with the statement stored, handed back through the result's cells. -/
theorem fwd_end {w w3 : World} {p : Pr} {a9 : Option Addr} {c9 d9 g mid j : Nat} {x y : Int} (hG : Gr w w3 none) (hI : InAt w3 Any p.types a9) (hS : Sts w3 mid (some ⟨g, 0, none⟩) d9 p.body) (hmid : w.heap.size + 1 < mid) (hob : ∀ g', ob a9 = some g' → w.heap.size + 1 < g' ∧ g' < mid) (hj : j + 1 < p.body.length) :
    ProgOk ⟨p.types, p.body.set (j + 1) (.mk 3 x y 0 [] [])⟩ true w (.returned (.tuple #[.agg #[.slice a9 p.types.length c9, .slice (some ⟨g, 0, none⟩) p.body.length d9], .bool true])) (put2 (putSix w3 g ((j + 1) * 6) (.int .i64 3) (.int .i64 x) (.int .i64 y) (.int .i64 0) (.slice none 0 0) (.slice none 0 0)) (w.heap.size + 1) (.slice a9 p.types.length c9) (.slice (some ⟨g, 0, none⟩) p.body.length d9)) := by
  have hgl := (hS.own g rfl).1
  have h6 := putSix_own w3 g ((j + 1) * 6) (.int .i64 3) (.int .i64 x) (.int .i64 y) (.int .i64 0) (.slice none 0 0) (.slice none 0 0)
  have hS4 := hS.put hj 3 x y 0
  obtain ⟨w4, hw4⟩ : ∃ w4, putSix w3 g ((j + 1) * 6) (.int .i64 3) (.int .i64 x) (.int .i64 y) (.int .i64 0) (.slice none 0 0) (.slice none 0 0) = w4 := ⟨_, rfl⟩
  rw [hw4] at h6 hS4 ⊢
  have hp := put2_own w4 (w.heap.size + 1) (.slice a9 p.types.length c9) (.slice (some ⟨g, 0, none⟩) p.body.length d9)
  refine ⟨a9, some ⟨g, 0, none⟩, c9, d9, by rw [List.length_set], ?_, ?_, ?_⟩
  · have h1 := InAt.gr h6 (fun b _ hd e => by have := (hob b hd).2; have := Option.some.inj e; omega) hI.block
    exact (InAt.gr hp (fun b _ hd e => by have := (hob b hd).1; have := Option.some.inj e; omega) h1).any
  · exact (hS4.gr hp (fun r e => by cases e; omega)).at.sub fun _ _ _ => trivial
  · exact put2_gr (hG.trans h6 (fun r e => .inr (by cases e; omega))) (by omega)
set_option maxRecDepth 100000 in
set_option maxHeartbeats 4000000 in
theorem implForwardLoad_any (p : Pr) (k : Int) (at' ab : Option Addr) (ct cb : Nat) (w : World) (hT : InAt w Any p.types at') (hB : SlAt w Any p.body ab) (hs : p.types.length ≤ 100000) (hc : St.count p.body ≤ 10000) :
    Calls Try.prog 56 #[.agg #[.slice at' p.types.length ct, .slice ab p.body.length cb], .int .i64 k] w (ProgOk (fwdOf p k).1 (fwdOf p k).2 w) := by
  have hlb := count_length p.body
  have hg1 : ∀ o o', Gr w ((w.alloc o).alloc o') none := fun o o' => ((Gr.refl _ _).alloc _).alloc _
  go_enter Try.func56, Try.ntmps56
  go_wp2_with fail
  obtain ⟨wA, hwA⟩ : ∃ wA : World, wA = (w.alloc (.cells #[.slice at' p.types.length ct, .slice ab p.body.length cb] 30)).alloc (.cells #[.slice none 0 0, .slice none 0 0] 30) := ⟨_, rfl⟩
  have hgA : Gr w wA none := by rw [hwA]; exact ((Gr.refl _ _).alloc _).alloc _
  have q0 : wA.cell? ⟨w.heap.size, 0, none⟩ = some (.slice at' p.types.length ct) := by rw [hwA]; exact cell_of_row _ _ _ _ _ _ (heap2_0 _ _ _)
  have q1 : wA.cell? ⟨w.heap.size, 1, none⟩ = some (.slice ab p.body.length cb) := by rw [hwA]; exact cell_of_row _ _ _ _ _ _ (heap2_0 _ _ _)
  have hPA : Zp wA (w.heap.size + 1) (.slice none 0 0) (.slice none 0 0) := by
    rw [hwA]; exact ⟨cell_of_row _ _ _ _ _ _ (heap2_1 _ _ _), cell_of_row _ _ _ _ _ _ (heap2_1 _ _ _), frz_new (heap2_1 _ _ _)⟩
  have hszA : w.heap.size + 1 < wA.heap.size := hPA.lt
  rw [← hwA]
  clear hwA hg1
  refine (hasPair_any p k at' ab ct cb _ (hT.gr0 hgA) (hB.gr0 hgA) (by omega) (by omega)).mono ?_
  rintro e w1 ⟨rfl, hg⟩
  replace q0 := hg.cell q0 (by simp)
  replace q1 := hg.cell q1 (by simp)
  have hsz1 := hg.size
  have HP := Lib.hid (hPA.gr hg (by simp))
  have HG := Lib.hid (hgA.trans0 hg)
  clear hgA hPA hg
  cases hp : hasPairP p k with
  | false =>
    have HO := Lib.hid (fwdOf_out hp)
    clear hp
    obtain ⟨z0, z1, zf⟩ := HP.out
    go_wp2_with fail
    (try simp only [Exit.inBlock, Exit.then])
    refine fwd_ret (b := w.heap.size + 1) HP.out rfl rfl ?_
    rw [HO.out]
    exact ProgOk.no HG.out (by omega)
  | true =>
    obtain ⟨j, rfl, hj, -⟩ := hasPairP_in hp
    have HO := Lib.hid (fwdOf_in hp hj)
    clear hp
    obtain ⟨bb, oo, rfl, hst⟩ := (hB.gr0 HG.out).at (show j < p.body.length by omega)
    obtain ⟨b2, o2, e2, hst2⟩ := (hB.gr0 HG.out).at hj
    cases e2
    obtain ⟨sa, hsa⟩ : ∃ s, p.body[j] = s := ⟨_, rfl⟩
    obtain ⟨sb, hsb⟩ : ∃ s, p.body[j + 1] = s := ⟨_, rfl⟩
    rw [hsa] at hst HO
    rw [hsb] at hst2 HO
    obtain ⟨o1, x1, y1, n1, t1, e1⟩ := sa
    obtain ⟨o2, x2, y2, n2, t2, e2⟩ := sb
    obtain ⟨_, -, -, at1, ct1, ae1, ce1, c0, c1, c2, c3, c4, c5, -, -⟩ := hst.out
    obtain ⟨_, -, -, at2, ct2, ae2, ce2, d0, d1, d2, d3, d4, d5, -, -⟩ := hst2.out
    simp only [St.op, St.x, St.y, St.n, St.thn, St.els] at c0 c1 c2 c3 c4 c5 d0 d1 d2 d3 d4 d5
    have hw1 : IntKind.i64.wrap ((j : Int) + 1) = ((j + 1 : Nat) : Int) := by rw [IntWalk.i64_in _ (by omega)]; omega
    have hj1 : (0 : Int) ≤ (j : Int) + 1 ∧ (j : Int) + 1 < (p.body.length : Int) := by omega
    clear hst hst2 hsa hsb
    go_upto_region 3 with fail
    go_cut [6, 7] (fun v6 v7 wy => ∃ (wx : World) (b6 b7 : Nat), wx = wy ∧ v6 = .pointer (some ⟨b6, 0, none⟩) ∧ v7 = .pointer (some ⟨b7, 0, none⟩) ∧ Z6 wx b6 (.int .i64 o1) (.int .i64 x1) (.int .i64 y1) (.int .i64 n1) (.slice at1 t1.length ct1) (.slice ae1 e1.length ce1) ∧ Z6 wx b7 (.int .i64 o2) (.int .i64 x2) (.int .i64 y2) (.int .i64 n2) (.slice at2 t2.length ct2) (.slice ae2 e2.length ce2) ∧ Gr w1 wx none)
    case first =>
      have hjl : j < p.body.length := by omega
      refine wp_region_held_drew (S := fun w' => Gr w1 w' none) (by kernel_rfl) ((Gr.refl w1 none).drew) (fun hHeld => ?_)
      refine wpAnyH_take (i := 0) (v := ?_) rfl (by kernel_rfl) (by kernel_rfl) (by kernel_rfl) (fun _ _ _ h => h) (Or.inl ⟨by rfl, ?_⟩) hHeld ?_
      rotate_left
      focus (intro wq hq; clear hq; go_simp; try with_reducible rfl)
      simp only [Act.put, List.getElem_toArray, List.getElem_cons_zero, List.setIfInBounds_toArray, List.set_cons_zero, List.set_cons_succ]
      refine wpAnyH_take (i := 1) (v := ?_) rfl (by kernel_rfl) (by kernel_rfl) (by kernel_rfl) (fun _ _ _ h => h) (Or.inl ⟨by rfl, ?_⟩) hHeld ?_
      rotate_left
      focus (intro wq hq; have k1 := hq.cell q1 (by simp); go_simp; try with_reducible rfl)
      simp only [Act.put, List.getElem_toArray, List.getElem_cons_succ, List.getElem_cons_zero, List.setIfInBounds_toArray, List.set_cons_zero, List.set_cons_succ]
      refine wpAnyH_take (i := 2) (v := ?_) rfl (by kernel_rfl) (by kernel_rfl) (by kernel_rfl) (fun _ _ _ h => h) (Or.inl ⟨by rfl, ?_⟩) hHeld ?_
      rotate_left
      focus (intro wq hq; clear hq; go_simp; try with_reducible rfl)
      simp only [Act.put, List.getElem_toArray, List.getElem_cons_succ, List.getElem_cons_zero, List.setIfInBounds_toArray, List.set_cons_zero, List.set_cons_succ]
      refine wpAnyH_take (i := 3) (v := ?_) rfl (by kernel_rfl) (by kernel_rfl) (by kernel_rfl) (fun _ _ _ h => h) (Or.inl ⟨by rfl, ?_⟩) hHeld ?_
      rotate_left
      focus (intro wq hq; clear hq; go_simp; try with_reducible rfl)
      simp only [Act.put, List.getElem_toArray, List.getElem_cons_succ, List.getElem_cons_zero, List.setIfInBounds_toArray, List.set_cons_zero, List.set_cons_succ]
      refine wpAnyH_take (i := 4) (v := ?_) rfl (by kernel_rfl) (by kernel_rfl) (by kernel_rfl) (fun _ _ _ h => h) (Or.inl ⟨by rfl, ?_⟩) hHeld ?_
      rotate_left
      focus (intro wq hq; have k0 := hq.cell c0 (by simp); have k1 := hq.cell c1 (by simp); have k2 := hq.cell c2 (by simp); have k3 := hq.cell c3 (by simp); have k4 := hq.cell c4 (by simp); have k5 := hq.cell c5 (by simp); go_simp; try with_reducible rfl)
      simp only [Act.put, List.getElem_toArray, List.getElem_cons_succ, List.getElem_cons_zero, List.setIfInBounds_toArray, List.set_cons_zero, List.set_cons_succ]
      refine wpAnyH_take (i := 5) (v := ?_) rfl (by kernel_rfl) (by kernel_rfl) (by kernel_rfl) (fun _ _ _ h => h) (Or.inl ⟨by rfl, ?_⟩) hHeld ?_
      rotate_left
      focus (intro wq hq; clear hq; go_simp; try with_reducible rfl)
      simp only [Act.put, List.getElem_toArray, List.getElem_cons_succ, List.getElem_cons_zero, List.setIfInBounds_toArray, List.set_cons_zero, List.set_cons_succ]
      refine wpAnyH_take (i := 6) (v := ?_) rfl (by kernel_rfl) (by kernel_rfl) (by kernel_rfl) (fun _ _ _ h => h) (Or.inl ⟨by rfl, ?_⟩) hHeld ?_
      rotate_left
      focus (intro wq hq; have k1 := hq.cell q1 (by simp); go_simp; try with_reducible rfl)
      simp only [Act.put, List.getElem_toArray, List.getElem_cons_succ, List.getElem_cons_zero, List.setIfInBounds_toArray, List.set_cons_zero, List.set_cons_succ]
      refine wpAnyH_take (i := 7) (v := ?_) rfl (by kernel_rfl) (by kernel_rfl) (by kernel_rfl) (fun _ _ _ h => h) (Or.inl ⟨by rfl, ?_⟩) hHeld ?_
      rotate_left
      focus (intro wq hq; clear hq; go_simp; try with_reducible rfl)
      simp only [Act.put, List.getElem_toArray, List.getElem_cons_succ, List.getElem_cons_zero, List.setIfInBounds_toArray, List.set_cons_zero, List.set_cons_succ]
      refine wpAnyH_take (i := 8) (v := ?_) rfl (by kernel_rfl) (by kernel_rfl) (by kernel_rfl) (fun _ _ _ h => h) (Or.inl ⟨by rfl, ?_⟩) hHeld ?_
      rotate_left
      focus (intro wq hq; clear hq; go_simp; try with_reducible rfl)
      simp only [Act.put, List.getElem_toArray, List.getElem_cons_succ, List.getElem_cons_zero, List.setIfInBounds_toArray, List.set_cons_zero, List.set_cons_succ]
      refine wpAnyH_take (i := 9) (v := ?_) rfl (by kernel_rfl) (by kernel_rfl) (by kernel_rfl) (fun _ _ _ h => h) (Or.inl ⟨by rfl, ?_⟩) hHeld ?_
      rotate_left
      focus (intro wq hq; clear hq; go_simp; try with_reducible rfl)
      simp only [Act.put, List.getElem_toArray, List.getElem_cons_succ, List.getElem_cons_zero, List.setIfInBounds_toArray, List.set_cons_zero, List.set_cons_succ]
      refine wpAnyH_take (i := 10) (v := ?_) rfl (by kernel_rfl) (by kernel_rfl) (by kernel_rfl) (fun _ _ _ h => h) (Or.inl ⟨by rfl, ?_⟩) hHeld ?_
      rotate_left
      focus (intro wq hq; have k0 := hq.cell d0 (by simp); have k1 := hq.cell d1 (by simp); have k2 := hq.cell d2 (by simp); have k3 := hq.cell d3 (by simp); have k4 := hq.cell d4 (by simp); have k5 := hq.cell d5 (by simp); go_simp; try with_reducible rfl)
      simp only [Act.put, List.getElem_toArray, List.getElem_cons_succ, List.getElem_cons_zero, List.setIfInBounds_toArray, List.set_cons_zero, List.set_cons_succ]
      have HB := Lib.hid hB
      clear hB hT q0 c0 c1 c2 c3 c4 c5 d0 d1 d2 d3 d4 d5 hHeld
      refine wpAnyH_ready (rs := [11, 12]) (by kernel_rfl) (by simp) ?_
      refine AllReadyH.cons rfl (fun K hK => ?_) (AllReadyH.cons rfl (fun K hK => ?_) AllReadyH.nil)
      · go_simp
        try dsimp only
        have HGa := Lib.hid ((Gr.refl w1 none).drew.alloc (.cells #[.int .i64 0, .int .i64 0, .int .i64 0, .int .i64 0, .slice none 0 0, .slice none 0 0] 126))
        refine hK.out _ _ (HGa.out) (fun hHeld => ?_)
        clear hK K hHeld
        try simp only [Act.put, List.getElem_toArray, List.getElem_cons_succ, List.getElem_cons_zero, List.setIfInBounds_toArray, List.set_cons_zero, List.set_cons_succ]
        refine wpAnyH_ready (rs := [12]) (by kernel_rfl) (by simp) ?_
        refine AllReadyH.cons rfl (fun K hK => ?_) AllReadyH.nil
        go_simp
        try dsimp only
        have HGb := Lib.hid (HGa.out.alloc (.cells #[.int .i64 0, .int .i64 0, .int .i64 0, .int .i64 0, .slice none 0 0, .slice none 0 0] 126))
        refine hK.out _ _ (HGb.out) (fun hHeld => ?_)
        clear hK K hHeld
        try simp only [Act.put, List.getElem_toArray, List.getElem_cons_succ, List.getElem_cons_zero, List.setIfInBounds_toArray, List.set_cons_zero, List.set_cons_succ]
        have HZa := Lib.hid ((Z6.new w1.drew (.int .i64 0) (.int .i64 0) (.int .i64 0) (.int .i64 0) (.slice none 0 0) (.slice none 0 0) 126).gr ((Gr.refl _ none).alloc (.cells #[.int .i64 0, .int .i64 0, .int .i64 0, .int .i64 0, .slice none 0 0, .slice none 0 0] 126)) (by simp))
        have HZb := Lib.hid (show Z6 ((w1.drew.alloc (.cells #[.int .i64 0, .int .i64 0, .int .i64 0, .int .i64 0, .slice none 0 0, .slice none 0 0] 126)).alloc (.cells #[.int .i64 0, .int .i64 0, .int .i64 0, .int .i64 0, .slice none 0 0, .slice none 0 0] 126)) (w1.heap.size + 1) (.int .i64 0) (.int .i64 0) (.int .i64 0) (.int .i64 0) (.slice none 0 0) (.slice none 0 0) by simpa using Z6.new (w1.drew.alloc (.cells #[.int .i64 0, .int .i64 0, .int .i64 0, .int .i64 0, .slice none 0 0, .slice none 0 0] 126)) (.int .i64 0) (.int .i64 0) (.int .i64 0) (.int .i64 0) (.slice none 0 0) (.slice none 0 0) 126)
        obtain ⟨wZ, hwZ⟩ : ∃ wZ : World, ((w1.drew.alloc (.cells #[.int .i64 0, .int .i64 0, .int .i64 0, .int .i64 0, .slice none 0 0, .slice none 0 0] 126)).alloc (.cells #[.int .i64 0, .int .i64 0, .int .i64 0, .int .i64 0, .slice none 0 0, .slice none 0 0] 126)) = wZ := ⟨_, rfl⟩
        have hwY : ((w1.alloc (.cells #[.int .i64 0, .int .i64 0, .int .i64 0, .int .i64 0, .slice none 0 0, .slice none 0 0] 126)).alloc (.cells #[.int .i64 0, .int .i64 0, .int .i64 0, .int .i64 0, .slice none 0 0, .slice none 0 0] 126)).drew = wZ := hwZ
        rw [hwZ] at HZa HZb HGb
        rw [hwY]
        replace HZa : Hid (Z6 wZ w1.heap.size (.int .i64 0) (.int .i64 0) (.int .i64 0) (.int .i64 0) (.slice none 0 0) (.slice none 0 0)) := HZa
        clear hwZ hwY HGa
        refine wpAnyH_ready (rs := [13]) (by kernel_rfl) (by simp) ?_
        refine AllReadyH.cons rfl (fun K hK => ?_) AllReadyH.nil
        obtain ⟨z0, z1, z2, z3, z4, z5, zf⟩ := HZa.out
        go_simp
        try dsimp only
        clear z0 z1 z2 z3 z4 z5 zf
        have HS6 := Lib.hid (putSix_own wZ w1.heap.size 0 (.int .i64 o1) (.int .i64 x1) (.int .i64 y1) (.int .i64 n1) (.slice at1 t1.length ct1) (.slice ae1 e1.length ce1))
        have HG6 := Lib.hid (HGb.out.trans HS6.out (fun r hr => .inr (by cases hr; omega)))
        refine hK.out _ _ (HG6.out) (fun hHeld => ?_)
        clear hK K hHeld
        try simp only [Act.put, List.getElem_toArray, List.getElem_cons_succ, List.getElem_cons_zero, List.setIfInBounds_toArray, List.set_cons_zero, List.set_cons_succ]
        have HZ66 := Lib.hid (HZa.out.six (.int .i64 o1) (.int .i64 x1) (.int .i64 y1) (.int .i64 n1) (.slice at1 t1.length ct1) (.slice ae1 e1.length ce1))
        have HZ67 := Lib.hid (HZb.out.gr HS6.out (by simp))
        obtain ⟨wS6, hwS6⟩ : ∃ wS : World, (World.setCell (World.setCell (World.setCell (World.setCell (World.setCell (World.setCell wZ ⟨w1.heap.size, 0, none⟩ (.int .i64 o1)) ⟨w1.heap.size, 1, none⟩ (.int .i64 x1)) ⟨w1.heap.size, 2, none⟩ (.int .i64 y1)) ⟨w1.heap.size, 3, none⟩ (.int .i64 n1)) ⟨w1.heap.size, 4, none⟩ (.slice at1 t1.length ct1)) ⟨w1.heap.size, 5, none⟩ (.slice ae1 e1.length ce1)) = wS := ⟨_, rfl⟩
        have hwP6 : putSix wZ w1.heap.size 0 (.int .i64 o1) (.int .i64 x1) (.int .i64 y1) (.int .i64 n1) (.slice at1 t1.length ct1) (.slice ae1 e1.length ce1) = wS6 := hwS6
        rw [hwP6] at HZ66 HZ67 HG6
        rw [hwS6]
        clear hwS6 hwP6 HS6
        refine wpAnyH_ready (rs := [14]) (by kernel_rfl) (by simp) ?_
        refine AllReadyH.cons rfl (fun K hK => ?_) AllReadyH.nil
        obtain ⟨z0, z1, z2, z3, z4, z5, zf⟩ := HZ67.out
        go_simp
        try dsimp only
        clear z0 z1 z2 z3 z4 z5 zf
        have HS7 := Lib.hid (putSix_own wS6 (w1.heap.size + 1) 0 (.int .i64 o2) (.int .i64 x2) (.int .i64 y2) (.int .i64 n2) (.slice at2 t2.length ct2) (.slice ae2 e2.length ce2))
        have HG7 := Lib.hid (HG6.out.trans HS7.out (fun r hr => .inr (by cases hr; omega)))
        refine hK.out _ _ (HG7.out) (fun hHeld => ?_)
        clear hK K hHeld
        try simp only [Act.put, List.getElem_toArray, List.getElem_cons_succ, List.getElem_cons_zero, List.setIfInBounds_toArray, List.set_cons_zero, List.set_cons_succ]
        have HZ77 := Lib.hid (HZ67.out.six (.int .i64 o2) (.int .i64 x2) (.int .i64 y2) (.int .i64 n2) (.slice at2 t2.length ct2) (.slice ae2 e2.length ce2))
        have HZ76 := Lib.hid (HZ66.out.gr HS7.out (by simp))
        obtain ⟨wS7, hwS7⟩ : ∃ wS : World, (World.setCell (World.setCell (World.setCell (World.setCell (World.setCell (World.setCell wS6 ⟨(w1.heap.size + 1), 0, none⟩ (.int .i64 o2)) ⟨(w1.heap.size + 1), 1, none⟩ (.int .i64 x2)) ⟨(w1.heap.size + 1), 2, none⟩ (.int .i64 y2)) ⟨(w1.heap.size + 1), 3, none⟩ (.int .i64 n2)) ⟨(w1.heap.size + 1), 4, none⟩ (.slice at2 t2.length ct2)) ⟨(w1.heap.size + 1), 5, none⟩ (.slice ae2 e2.length ce2)) = wS := ⟨_, rfl⟩
        have hwP7 : putSix wS6 (w1.heap.size + 1) 0 (.int .i64 o2) (.int .i64 x2) (.int .i64 y2) (.int .i64 n2) (.slice at2 t2.length ct2) (.slice ae2 e2.length ce2) = wS7 := hwS7
        rw [hwP7] at HZ77 HZ76 HG7
        rw [hwS7]
        clear hwS7 hwP7 HS7
        refine wpAnyH_done (by kernel_rfl) ?_ _
        go_wp2_with fail
        go_meet
        exact ⟨_, _, _, rfl, rfl, rfl, HZ76.out, HZ77.out, HG7.out⟩
      · go_simp
        try dsimp only
        have HGa := Lib.hid ((Gr.refl w1 none).drew.alloc (.cells #[.int .i64 0, .int .i64 0, .int .i64 0, .int .i64 0, .slice none 0 0, .slice none 0 0] 126))
        refine hK.out _ _ (HGa.out) (fun hHeld => ?_)
        clear hK K hHeld
        try simp only [Act.put, List.getElem_toArray, List.getElem_cons_succ, List.getElem_cons_zero, List.setIfInBounds_toArray, List.set_cons_zero, List.set_cons_succ]
        refine wpAnyH_ready (rs := [11]) (by kernel_rfl) (by simp) ?_
        refine AllReadyH.cons rfl (fun K hK => ?_) AllReadyH.nil
        go_simp
        try dsimp only
        have HGb := Lib.hid (HGa.out.alloc (.cells #[.int .i64 0, .int .i64 0, .int .i64 0, .int .i64 0, .slice none 0 0, .slice none 0 0] 126))
        refine hK.out _ _ (HGb.out) (fun hHeld => ?_)
        clear hK K hHeld
        try simp only [Act.put, List.getElem_toArray, List.getElem_cons_succ, List.getElem_cons_zero, List.setIfInBounds_toArray, List.set_cons_zero, List.set_cons_succ]
        have HZa := Lib.hid ((Z6.new w1.drew (.int .i64 0) (.int .i64 0) (.int .i64 0) (.int .i64 0) (.slice none 0 0) (.slice none 0 0) 126).gr ((Gr.refl _ none).alloc (.cells #[.int .i64 0, .int .i64 0, .int .i64 0, .int .i64 0, .slice none 0 0, .slice none 0 0] 126)) (by simp))
        have HZb := Lib.hid (show Z6 ((w1.drew.alloc (.cells #[.int .i64 0, .int .i64 0, .int .i64 0, .int .i64 0, .slice none 0 0, .slice none 0 0] 126)).alloc (.cells #[.int .i64 0, .int .i64 0, .int .i64 0, .int .i64 0, .slice none 0 0, .slice none 0 0] 126)) (w1.heap.size + 1) (.int .i64 0) (.int .i64 0) (.int .i64 0) (.int .i64 0) (.slice none 0 0) (.slice none 0 0) by simpa using Z6.new (w1.drew.alloc (.cells #[.int .i64 0, .int .i64 0, .int .i64 0, .int .i64 0, .slice none 0 0, .slice none 0 0] 126)) (.int .i64 0) (.int .i64 0) (.int .i64 0) (.int .i64 0) (.slice none 0 0) (.slice none 0 0) 126)
        obtain ⟨wZ, hwZ⟩ : ∃ wZ : World, ((w1.drew.alloc (.cells #[.int .i64 0, .int .i64 0, .int .i64 0, .int .i64 0, .slice none 0 0, .slice none 0 0] 126)).alloc (.cells #[.int .i64 0, .int .i64 0, .int .i64 0, .int .i64 0, .slice none 0 0, .slice none 0 0] 126)) = wZ := ⟨_, rfl⟩
        have hwY : ((w1.alloc (.cells #[.int .i64 0, .int .i64 0, .int .i64 0, .int .i64 0, .slice none 0 0, .slice none 0 0] 126)).alloc (.cells #[.int .i64 0, .int .i64 0, .int .i64 0, .int .i64 0, .slice none 0 0, .slice none 0 0] 126)).drew = wZ := hwZ
        rw [hwZ] at HZa HZb HGb
        rw [hwY]
        replace HZa : Hid (Z6 wZ w1.heap.size (.int .i64 0) (.int .i64 0) (.int .i64 0) (.int .i64 0) (.slice none 0 0) (.slice none 0 0)) := HZa
        clear hwZ hwY HGa
        refine wpAnyH_ready (rs := [13]) (by kernel_rfl) (by simp) ?_
        refine AllReadyH.cons rfl (fun K hK => ?_) AllReadyH.nil
        obtain ⟨z0, z1, z2, z3, z4, z5, zf⟩ := HZb.out
        go_simp
        try dsimp only
        clear z0 z1 z2 z3 z4 z5 zf
        have HS6 := Lib.hid (putSix_own wZ (w1.heap.size + 1) 0 (.int .i64 o1) (.int .i64 x1) (.int .i64 y1) (.int .i64 n1) (.slice at1 t1.length ct1) (.slice ae1 e1.length ce1))
        have HG6 := Lib.hid (HGb.out.trans HS6.out (fun r hr => .inr (by cases hr; omega)))
        refine hK.out _ _ (HG6.out) (fun hHeld => ?_)
        clear hK K hHeld
        try simp only [Act.put, List.getElem_toArray, List.getElem_cons_succ, List.getElem_cons_zero, List.setIfInBounds_toArray, List.set_cons_zero, List.set_cons_succ]
        have HZ66 := Lib.hid (HZb.out.six (.int .i64 o1) (.int .i64 x1) (.int .i64 y1) (.int .i64 n1) (.slice at1 t1.length ct1) (.slice ae1 e1.length ce1))
        have HZ67 := Lib.hid (HZa.out.gr HS6.out (by simp))
        obtain ⟨wS6, hwS6⟩ : ∃ wS : World, (World.setCell (World.setCell (World.setCell (World.setCell (World.setCell (World.setCell wZ ⟨(w1.heap.size + 1), 0, none⟩ (.int .i64 o1)) ⟨(w1.heap.size + 1), 1, none⟩ (.int .i64 x1)) ⟨(w1.heap.size + 1), 2, none⟩ (.int .i64 y1)) ⟨(w1.heap.size + 1), 3, none⟩ (.int .i64 n1)) ⟨(w1.heap.size + 1), 4, none⟩ (.slice at1 t1.length ct1)) ⟨(w1.heap.size + 1), 5, none⟩ (.slice ae1 e1.length ce1)) = wS := ⟨_, rfl⟩
        have hwP6 : putSix wZ (w1.heap.size + 1) 0 (.int .i64 o1) (.int .i64 x1) (.int .i64 y1) (.int .i64 n1) (.slice at1 t1.length ct1) (.slice ae1 e1.length ce1) = wS6 := hwS6
        rw [hwP6] at HZ66 HZ67 HG6
        rw [hwS6]
        clear hwS6 hwP6 HS6
        refine wpAnyH_ready (rs := [14]) (by kernel_rfl) (by simp) ?_
        refine AllReadyH.cons rfl (fun K hK => ?_) AllReadyH.nil
        obtain ⟨z0, z1, z2, z3, z4, z5, zf⟩ := HZ67.out
        go_simp
        try dsimp only
        clear z0 z1 z2 z3 z4 z5 zf
        have HS7 := Lib.hid (putSix_own wS6 w1.heap.size 0 (.int .i64 o2) (.int .i64 x2) (.int .i64 y2) (.int .i64 n2) (.slice at2 t2.length ct2) (.slice ae2 e2.length ce2))
        have HG7 := Lib.hid (HG6.out.trans HS7.out (fun r hr => .inr (by cases hr; omega)))
        refine hK.out _ _ (HG7.out) (fun hHeld => ?_)
        clear hK K hHeld
        try simp only [Act.put, List.getElem_toArray, List.getElem_cons_succ, List.getElem_cons_zero, List.setIfInBounds_toArray, List.set_cons_zero, List.set_cons_succ]
        have HZ77 := Lib.hid (HZ67.out.six (.int .i64 o2) (.int .i64 x2) (.int .i64 y2) (.int .i64 n2) (.slice at2 t2.length ct2) (.slice ae2 e2.length ce2))
        have HZ76 := Lib.hid (HZ66.out.gr HS7.out (by simp))
        obtain ⟨wS7, hwS7⟩ : ∃ wS : World, (World.setCell (World.setCell (World.setCell (World.setCell (World.setCell (World.setCell wS6 ⟨w1.heap.size, 0, none⟩ (.int .i64 o2)) ⟨w1.heap.size, 1, none⟩ (.int .i64 x2)) ⟨w1.heap.size, 2, none⟩ (.int .i64 y2)) ⟨w1.heap.size, 3, none⟩ (.int .i64 n2)) ⟨w1.heap.size, 4, none⟩ (.slice at2 t2.length ct2)) ⟨w1.heap.size, 5, none⟩ (.slice ae2 e2.length ce2)) = wS := ⟨_, rfl⟩
        have hwP7 : putSix wS6 w1.heap.size 0 (.int .i64 o2) (.int .i64 x2) (.int .i64 y2) (.int .i64 n2) (.slice at2 t2.length ct2) (.slice ae2 e2.length ce2) = wS7 := hwS7
        rw [hwP7] at HZ77 HZ76 HG7
        rw [hwS7]
        clear hwS7 hwP7 HS7
        refine wpAnyH_done (by kernel_rfl) ?_ _
        go_wp2_with fail
        go_meet
        exact ⟨_, _, _, rfl, rfl, rfl, HZ76.out, HZ77.out, HG7.out⟩
    case rest =>
    obtain ⟨wx, b6, b7, rfl, rfl, rfl, hz6, hz7, hgx⟩ := hcut
    have HPX := Lib.hid (HP.out.gr hgx (by simp))
    have HGX := Lib.hid (HG.out.trans0 hgx)
    replace q0 := hgx.cell q0 (by simp)
    replace q1 := hgx.cell q1 (by simp)
    have H6 := Lib.hid hz6
    have H7 := Lib.hid hz7
    have HT := Lib.hid (hT.gr0 HGX.out)
    have HB := Lib.hid (hB.gr0 HGX.out)
    clear c0 c1 c2 c3 c4 c5 d0 d1 d2 d3 d4 d5 hgx hT hB
    obtain ⟨c0, c1, c2, -, -, -, -⟩ := hz6
    obtain ⟨d0, d1, d2, -, -, -, -⟩ := hz7
    by_cases h1 : o1 = 7
    · have e1 : (o1 == 7) = true := by simp [h1]
      by_cases h2 : o2 = 6
      · have e2 : (o2 == 6) = true := by simp [h2]
        by_cases h3 : y2 = x1
        · have e3 : (y2 == x1) = true := by simp [h3]
          by_cases h4 : x2 = y1
          · have e4 : (x2 == y1) = true := by simp [h4]
            have HO2 := Lib.hid (show fwdOf p j = (⟨[], []⟩, false) by rw [HO.out, if_neg (by simp [fwdAt, St.op, St.x, St.y]; omega)])
            obtain ⟨z0, z1, zf⟩ := HPX.out
            go_wp2_with fail
            (try simp only [Exit.inBlock, Exit.then])
            refine fwd_ret (b := w.heap.size + 1) HPX.out rfl rfl ?_
            rw [HO2.out]
            exact ProgOk.no HGX.out (by omega)
          · have e4 : (x2 == y1) = false := beq_eq_false_iff_ne.2 h4
            have HO2 := Lib.hid (show fwdOf p j = (⟨p.types, p.body.set (j + 1) (.mk 3 x2 y1 0 [] [])⟩, true) by rw [HO.out, if_pos (by simp [fwdAt, St.op, St.x, St.y, h1, h2, h3, h4])]; rfl)
            go_wp2_with fail
            refine (own_any p at' (some ⟨bb, oo, none⟩) ct cb _ HT.out HB.out hs hc).mono ?_
            rintro e w2 ⟨a9, b9, c9, d9, rfl, hI, -, hg2, mid, hmid, hS, hob⟩
            obtain ⟨g, rfl⟩ := hS.addr (by omega)
            have hgl := (hS.own g rfl)
            have hgA : Gr w2 (w2.alloc (.cells #[.slice a9 p.types.length c9, .slice (some ⟨g, 0, none⟩) p.body.length d9] 30)) none := (Gr.refl _ _).alloc _
            have hPZ := Zp.new w2 (.slice a9 p.types.length c9) (.slice (some ⟨g, 0, none⟩) p.body.length d9) 30
            have hsz2 := hg2.size
            have hszx := HGX.out.size
            have hzx := HPX.out.lt
            have HP2 := Lib.hid (HPX.out.gr (hg2.trans0 hgA) (by simp))
            have HG3 := Lib.hid (HGX.out.trans0 (hg2.trans0 hgA))
            have HS3 := Lib.hid (hS.gr0 hgA)
            have HI3 := Lib.hid (hI.gr0 hgA)
            replace c2 := (hg2.trans0 hgA).cell c2 (by simp)
            replace d1 := (hg2.trans0 hgA).cell d1 (by simp)
            clear c0 c1 d0 d2 q0 q1 hI hS hg2
            go_upto_region 7 with fail
            obtain ⟨w3, hw3⟩ : ∃ w3, w3 = w2.alloc (.cells #[.slice a9 p.types.length c9, .slice (some ⟨g, 0, none⟩) p.body.length d9] 30) := ⟨_, rfl⟩
            rw [← hw3] at hgA hPZ HP2 HG3 HS3 HI3 c2 d1 ⊢
            clear hw3 hgA
            have HPZ := Lib.hid hPZ
            obtain ⟨p0, p1, -⟩ := hPZ
            obtain ⟨r, hr, hrc⟩ := HS3.out.cell hj
            obtain ⟨-, -, at8, ct8, ae8, ce8, rfl, -, -⟩ := hr
            have s0 := hrc 0 _ rfl
            rw [Nat.add_zero] at s0
            have s1 := hrc 1 _ rfl
            have s2 := hrc 2 _ rfl
            have s3 := hrc 3 _ rfl
            have s4 := hrc 4 _ rfl
            have s5 := hrc 5 _ rfl
            have sf : ∀ o, w3.frozen? ⟨g, o, none⟩ = false := fun o => HS3.out.frz _ rfl
            clear hrc
            go_upto_region 8 with fail
            have h6 := putSix_own w3 g ((j + 1) * 6) (.int .i64 3) (.int .i64 x2) (.int .i64 y1) (.int .i64 0) (.slice none 0 0) (.slice none 0 0)
            have HE := Lib.hid (fwd_end (x := x2) (y := y1) (c9 := c9) HG3.out HI3.out HS3.out (by omega) (fun g' h => ⟨by have := (hob g' h).1; omega, (hob g' h).2⟩) hj)
            obtain ⟨w4, hw4⟩ : ∃ w4, w4 = putSix w3 g ((j + 1) * 6) (.int .i64 3) (.int .i64 x2) (.int .i64 y1) (.int .i64 0) (.slice none 0 0) (.slice none 0 0) := ⟨_, rfl⟩
            have e6 := hw4.symm
            rw [← hw4] at h6 HE
            unfold putSix at e6
            rw [e6]
            replace p0 := h6.cell p0 (by simp; omega)
            replace p1 := h6.cell p1 (by simp; omega)
            have HP4 := Lib.hid (HP2.out.gr h6 (by simp; omega))
            clear e6 hw4 s0 s1 s2 s3 s4 s5 sf h6 c2 d1
            obtain ⟨z0, z1, zf⟩ := HP4.out
            go_wp2_with fail
            (try simp only [Exit.inBlock, Exit.then])
            refine fwd_ret (b := w.heap.size + 1) HP4.out rfl rfl ?_
            rw [HO2.out]
            exact HE.out
        · have e3 : (y2 == x1) = false := beq_eq_false_iff_ne.2 h3
          have HO2 := Lib.hid (show fwdOf p j = (⟨[], []⟩, false) by rw [HO.out, if_neg (by simp [fwdAt, St.op, St.x, St.y]; omega)])
          obtain ⟨z0, z1, zf⟩ := HPX.out
          go_wp2_with fail
          (try simp only [Exit.inBlock, Exit.then])
          refine fwd_ret (b := w.heap.size + 1) HPX.out rfl rfl ?_
          rw [HO2.out]
          exact ProgOk.no HGX.out (by omega)
      · have e2 : (o2 == 6) = false := beq_eq_false_iff_ne.2 h2
        have HO2 := Lib.hid (show fwdOf p j = (⟨[], []⟩, false) by rw [HO.out, if_neg (by simp [fwdAt, St.op, St.x, St.y]; omega)])
        obtain ⟨z0, z1, zf⟩ := HPX.out
        go_wp2_with fail
        (try simp only [Exit.inBlock, Exit.then])
        refine fwd_ret (b := w.heap.size + 1) HPX.out rfl rfl ?_
        rw [HO2.out]
        exact ProgOk.no HGX.out (by omega)
    · have e1 : (o1 == 7) = false := beq_eq_false_iff_ne.2 h1
      have HO2 := Lib.hid (show fwdOf p j = (⟨[], []⟩, false) by rw [HO.out, if_neg (by simp [fwdAt, St.op, St.x, St.y]; omega)])
      obtain ⟨z0, z1, zf⟩ := HPX.out
      go_wp2_with fail
      (try simp only [Exit.inBlock, Exit.then])
      refine fwd_ret (b := w.heap.size + 1) HPX.out rfl rfl ?_
      rw [HO2.out]
      exact ProgOk.no HGX.out (by omega)
end Go.Proofs.Ytdnhinkjmjpnnaa
