/- Which points can be reached: plain, with no walk: the invariant of a search that marks points, whatever the order in which it takes them. -/
/- The points that come next are points. A list of marks in memory. No walk stands here. -/
/- Reaching in the reference: the walk of l12Reach. -/
/- Reaching in the program: the walk of around. -/
/- Dominating: walks of Dominates, in the program and in the reference. -/
/- Dominates and AlwaysReaches, of the program and of the reference: both hand back the same. -/
import Derived.Test.YtadidppbhpdnkaaP3

import Derived.Test.YtadidppbhpdnkaaQ

import Derived.Test.YtadidppbhpdnkaaH5

import Derived.Deep.LoopGhost

import Derived.Deep.DeepCutAuto

import Derived.Test.YtadidppbhpdnkaaS1

import Derived.Deep.RegionWith

namespace Go.Proofs.Ytadidppbhpdnkaa

open Go.RowKit

/-- The points that come next. -/
def nextOf (L : List Pt) (k : Nat) : List Nat := (L.getD k ⟨0, 0, 0, 0, []⟩).next
theorem nextOf_get {L : List Pt} {k : Nat} (h : k < L.length) : nextOf L k = (L[k]).next := by simp [nextOf, h]

/-- The point k can be reached from the points S, without passing the point x. -/
inductive Rch (L : List Pt) (S : List Nat) (x : Int) : Nat → Prop
  | start {k : Nat} : k ∈ S → (k : Int) ≠ x → Rch L S x k
  | step {j k : Nat} : Rch L S x j → k ∈ nextOf L j → (k : Int) ≠ x → Rch L S x k

/-- All next points are points, at most two. -/
def NextOk (L : List Pt) : Prop := ∀ k, k < L.length → (nextOf L k).length ≤ 2 ∧ ∀ j ∈ nextOf L k, j < L.length

/-- The search's invariant: f tells the marked points, W are those that are still to be taken. -/
def Srch (L : List Pt) (S : List Nat) (x : Int) (f : List Bool) (W : List Nat) : Prop :=
  f.length = L.length ∧ (∀ k ∈ W, k < L.length) ∧
  (∀ k, f[k]? = some true → Rch L S x k) ∧
  (∀ k ∈ W, (k : Int) = x ∨ Rch L S x k) ∧
  (∀ k ∈ S, (k : Int) = x ∨ f[k]? = some true ∨ k ∈ W) ∧
  (∀ j, f[j]? = some true → ∀ k ∈ nextOf L j, (k : Int) = x ∨ f[k]? = some true ∨ k ∈ W)
theorem Srch.start {L : List Pt} {S : List Nat} {x : Int} (hS : ∀ k ∈ S, k < L.length) : Srch L S x (List.replicate L.length false) S := by
  refine ⟨by simp, hS, fun k hk => ?_, fun k hk => ?_, fun k hk => .inr (.inr hk), fun j hj => ?_⟩
  · rw [List.getElem?_replicate] at hk; split at hk <;> simp at hk
  · by_cases h : (k : Int) = x
    · exact .inl h
    · exact .inr (.start hk h)
  · rw [List.getElem?_replicate] at hj; split at hj <;> simp at hj
/-- The work's order does not matter. -/
theorem Srch.perm {L : List Pt} {S : List Nat} {x : Int} {f : List Bool} {W W' : List Nat} (h : Srch L S x f W) (hp : ∀ k, k ∈ W ↔ k ∈ W') : Srch L S x f W' := by
  obtain ⟨h1, h2, h3, h4, h5, h6⟩ := h
  exact ⟨h1, fun k hk => h2 k ((hp k).2 hk), h3, fun k hk => h4 k ((hp k).2 hk), fun k hk => (h5 k hk).imp id (Or.imp id (hp k).1), fun j hj k hk => (h6 j hj k hk).imp id (Or.imp id (hp k).1)⟩
/-- A point that need not be marked is dropped. -/
theorem Srch.drop {L : List Pt} {S : List Nat} {x : Int} {f : List Bool} {W : List Nat} {a : Nat} (h : Srch L S x f (a :: W)) (ha : (a : Int) = x ∨ f[a]? = some true) : Srch L S x f W := by
  obtain ⟨h1, h2, h3, h4, h5, h6⟩ := h
  refine ⟨h1, fun k hk => h2 k (by simp [hk]), h3, fun k hk => h4 k (by simp [hk]), fun k hk => ?_, fun j hj k hk => ?_⟩
  · rcases h5 k hk with q | q | q
    · exact .inl q
    · exact .inr (.inl q)
    · rcases List.mem_cons.1 q with rfl | q
      · rcases ha with ha | ha
        · exact .inl ha
        · exact .inr (.inl ha)
      · exact .inr (.inr q)
  · rcases h6 j hj k hk with q | q | q
    · exact .inl q
    · exact .inr (.inl q)
    · rcases List.mem_cons.1 q with rfl | q
      · rcases ha with ha | ha
        · exact .inl ha
        · exact .inr (.inl ha)
      · exact .inr (.inr q)
/-- A point is marked, and what comes next is still to be taken. -/
theorem Srch.mark {L : List Pt} {S : List Nat} {x : Int} {f : List Bool} {W : List Nat} {a : Nat} (h : Srch L S x f (a :: W)) (hL : NextOk L) (ha : (a : Int) ≠ x) : Srch L S x (f.set a true) (W ++ nextOf L a) := by
  obtain ⟨h1, h2, h3, h4, h5, h6⟩ := h
  have hal : a < L.length := h2 a (by simp)
  have hra : Rch L S x a := by
    rcases h4 a (by simp) with q | q
    · exact absurd q ha
    · exact q
  have hset : ∀ k : Nat, f[k]? = some true → (f.set a true)[k]? = some true := by
    intro k hk
    rw [List.getElem?_set]
    split
    · rename_i e; subst e; simp [h1, hal]
    · exact hk
  have hsa : (f.set a true)[a]? = some true := by simp [h1, hal]
  have hget : ∀ k : Nat, (f.set a true)[k]? = some true → k = a ∨ f[k]? = some true := by
    intro k hk
    by_cases e : a = k
    · exact .inl e.symm
    · rw [List.getElem?_set_ne e] at hk; exact .inr hk
  refine ⟨by simpa using h1, fun k hk => ?_, fun k hk => ?_, fun k hk => ?_, fun k hk => ?_, fun j hj k hk => ?_⟩
  · rcases List.mem_append.1 hk with q | q
    · exact h2 k (by simp [q])
    · exact (hL a hal).2 k q
  · rcases hget k hk with rfl | q
    · exact hra
    · exact h3 k q
  · rcases List.mem_append.1 hk with q | q
    · exact h4 k (by simp [q])
    · by_cases e : (k : Int) = x
      · exact .inl e
      · exact .inr (.step hra q e)
  · rcases h5 k hk with q | q | q
    · exact .inl q
    · exact .inr (.inl (hset k q))
    · rcases List.mem_cons.1 q with rfl | q
      · exact .inr (.inl hsa)
      · exact .inr (.inr (by simp [q]))
  · rcases hget j hj with rfl | q
    · exact .inr (.inr (by simp [hk]))
    · rcases h6 j q k hk with r | r | r
      · exact .inl r
      · exact .inr (.inl (hset k r))
      · rcases List.mem_cons.1 r with rfl | r
        · exact .inr (.inl hsa)
        · exact .inr (.inr (by simp [r]))
/-- At the end the marked points are those that can be reached. -/
theorem Srch.done {L : List Pt} {S : List Nat} {x : Int} {f : List Bool} (h : Srch L S x f []) : ∀ k, f[k]? = some true ↔ Rch L S x k := by
  obtain ⟨h1, h2, h3, h4, h5, h6⟩ := h
  intro k
  refine ⟨h3 k, fun hr => ?_⟩
  induction hr with
  | start hk hne =>
    rcases h5 _ hk with q | q | q
    · exact absurd q hne
    · exact q
    · simp at q
  | step _ hk hne ih =>
    rcases h6 _ ih _ hk with q | q | q
    · exact absurd q hne
    · exact q
    · simp at q

/-- How many points are not marked. -/
def unmarked (f : List Bool) : Nat := f.countP (· == false)
theorem unmarked_set : ∀ (f : List Bool) (a : Nat), f[a]? = some false → unmarked (f.set a true) + 1 = unmarked f
  | [], _, h => by simp at h
  | b :: r, 0, h => by
    simp at h
    subst h
    simp [unmarked]
  | b :: r, a + 1, h => by
    have := unmarked_set r a (by simpa using h)
    simp only [unmarked, List.set_cons_succ, List.countP_cons] at this ⊢
    omega
theorem unmarked_le (f : List Bool) : unmarked f ≤ f.length := List.countP_le_length
end Go.Proofs.Ytadidppbhpdnkaa

namespace Go.Proofs.Ytadidppbhpdnkaa

open Go.RowKit

def NextIn (l : List Pt) (m : Nat) : Prop := ∀ q ∈ l, q.next.length ≤ 2 ∧ ∀ j ∈ q.next, j ≤ m
theorem NextIn.mono {l : List Pt} {m m' : Nat} (h : NextIn l m) (hm : m ≤ m') : NextIn l m' := fun q hq => ⟨(h q hq).1, fun j hj => by have := (h q hq).2 j hj; omega⟩
theorem NextIn.app {l l' : List Pt} {m : Nat} (h : NextIn l m) (h' : NextIn l' m) : NextIn (l ++ l') m := fun q hq => by
  rcases List.mem_append.1 hq with r | r
  · exact h q r
  · exact h' q r
theorem NextIn.one {q : Pt} {m : Nat} (h : q.next.length ≤ 2) (h' : ∀ j ∈ q.next, j ≤ m) : NextIn [q] m := fun r hr => by
  simp at hr
  subst hr
  exact ⟨h, h'⟩
mutual
theorem ptsS_next : ∀ (s : St) (a : Nat), NextIn (ptsS s a) (a + (ptsS s a).length)
  | .mk op x y n t e, a => by
    have h1 := ptsL_next t (a + 1)
    have h2 := ptsL_next e (a + 1 + (ptsL t (a + 1)).length + 1)
    simp only [ptsS]
    split
    · simp only [List.length_append, List.length_cons, List.length_nil]
      refine (((NextIn.one (by simp) (by simp; omega)).app (h1.mono (by omega))).app (NextIn.one (by simp) (by simp; omega))).app (h2.mono (by omega))
    · split
      · simp only [List.length_append, List.length_cons, List.length_nil]
        exact ((NextIn.one (by simp) (by simp; omega)).app (h1.mono (by omega))).app (NextIn.one (by simp) (by simp))
      · exact NextIn.one (by simp) (by simp)
theorem ptsL_next : ∀ (l : List St) (a : Nat), NextIn (ptsL l a) (a + (ptsL l a).length)
  | [], a => by intro q hq; simp [ptsL] at hq
  | s :: r, a => by
    have h1 := ptsS_next s a
    have h2 := ptsL_next r (a + (ptsS s a).length)
    simp only [ptsL, List.length_append]
    exact (h1.mono (by omega)).app (h2.mono (by omega))
end
theorem pts_next (p : Pr) : NextOk (pts p) := by
  intro k hk
  have h := ptsL_next p.body 0
  rw [nextOf_get hk]
  have hm := List.getElem_mem hk
  have hl : (pts p).length = (ptsL p.body 0).length + 1 := by simp [pts]
  rcases List.mem_append.1 (show (pts p)[k] ∈ ptsL p.body 0 ++ [⟨11, 0, 0, 0, []⟩] from hm) with q | q
  · have := h _ q
    exact ⟨this.1, fun j hj => by have := this.2 j hj; omega⟩
  · simp at q
    rw [q]
    simp

/-! ### Marks -/

/-- The marks f lie in the block g. -/
def Flags (w : World) (g : Nat) (f : List Bool) : Prop := ∃ arr : Array Value, w.heap[g]? = some (.cells arr 4 (0, 0)) ∧ arr.size = f.length ∧ ∀ j (h : j < f.length), arr[j]? = some (.bool f[j])
theorem Flags.cell {w : World} {g : Nat} {f : List Bool} (h : Flags w g f) {j : Nat} (hj : j < f.length) : w.cell? ⟨g, j, none⟩ = some (.bool f[j]) := by
  obtain ⟨arr, h1, h2, h3⟩ := h
  rw [cell_of_row w g j _ _ _ h1]; exact h3 j hj
theorem Flags.free {w : World} {g : Nat} {f : List Bool} (h : Flags w g f) (j : Nat) : w.frozen? ⟨g, j, none⟩ = false := by
  obtain ⟨arr, h1, _⟩ := h
  simp [World.frozen?, h1]
theorem Flags.lt {w : World} {g : Nat} {f : List Bool} (h : Flags w g f) : g < w.heap.size := by
  obtain ⟨arr, h1, _⟩ := h
  exact lt_of_block h1
theorem Flags.gr {w w' : World} {g : Nat} {f : List Bool} {row : Option Nat} (h : Flags w g f) (hg : Gr w w' row) (hr : row ≠ some g) : Flags w' g f := by
  have hlt := h.lt
  obtain ⟨arr, h1, h2, h3⟩ := h
  exact ⟨arr, by rw [hg.block g hlt (fun e => hr e.symm)]; exact h1, h2, h3⟩
theorem Flags.set {w : World} {g : Nat} {f : List Bool} (h : Flags w g f) {k : Nat} (b : Bool) : Flags (w.setCell ⟨g, k, none⟩ (.bool b)) g (f.set k b) := by
  obtain ⟨arr, h1, h2, h3⟩ := h
  refine ⟨_, row_set _ h1, by simpa using h2, fun j hj => ?_⟩
  have hj' : j < f.length := by simpa using hj
  by_cases e : k = j
  · subst e; simp [h2, hj']
  · rw [Array.getElem?_setIfInBounds_ne e, h3 j hj']; simp [List.getElem_set_ne e]
theorem Flags.new (w : World) (n : Nat) : Flags (w.alloc (.cells (madeCells #[.bool false] n) 4)) w.heap.size (List.replicate n false) :=
  ⟨_, heap1_0 _ _, by simp [madeCells], fun j hj => by
    rw [← Array.getElem?_toList, toList_madeCells_one, List.getElem?_replicate, if_pos (by simpa using hj)]
    simp⟩
theorem Binfo : (Try.prog.info? 4).map (fun i => (i.zero, i.size, i.bytes)) = some (some (.bool false), 1, 1) := by kernel_rfl
end Go.Proofs.Ytadidppbhpdnkaa

namespace Go.Proofs.Ytadidppbhpdnkaa

open Go.RowKit

/-- A list of marks is handed back: those that can be reached. -/
def Marked (L : List Pt) (S : List Nat) (x : Int) (w : World) (e : Ending) (w' : World) : Prop :=
  ∃ (gf : Nat) (f : List Bool), e = .returned (.slice (some ⟨gf, 0, none⟩) L.length L.length) ∧ Flags w' gf f ∧ f.length = L.length ∧ (∀ k, f[k]? = some true ↔ Rch L S x k) ∧ Gr w w' none ∧ w.heap.size ≤ gf
theorem zs_app (a b : List Nat) : zs (a ++ b) = zs a ++ zs b := by simp [zs]
theorem que_new (w : World) (base : Nat) (hb : base ≤ w.heap.size) (a : Nat) : Que (w.alloc (.cells #[.int .i64 (a : Int)] 3)) base w.heap.size 0 1 1 (zs [a]) := by
  have h := heap1_0 w (.cells #[.int .i64 (a : Int)] 3)
  refine ⟨hb, by simp, by simp [zs], Nat.le_refl _, fun j hj => ?_, fun j u hu => ?_⟩
  · obtain rfl : j = 0 := by omega
    exact ⟨by rw [cell_of_row _ _ _ _ _ _ h]; rfl, by unfold World.frozen?; rw [h]; rfl⟩
  · have hj : j < 1 := by simpa [ints, zs] using (List.getElem?_eq_some_iff.1 hu).1
    obtain rfl : j = 0 := by omega
    rw [cell_of_row _ _ _ _ _ _ h]
    simpa [ints, zs] using hu

set_option maxRecDepth 100000 in
set_option maxHeartbeats 2000000 in
theorem l12Reach_any (L : List Pt) (ao : Option Addr) (co a : Nat) (x : Int) (w : World) (hP : PtsAt w L ao) (hL : NextOk L) (hl : L.length ≤ 100) (ha : a < L.length) :
    Calls Try.prog 62 #[.slice ao L.length co, .int .i64 a, .int .i64 x] w (Marked L [a] x w) := by
  have hmk := fun w : World => run_make_row' (P := Try.prog) 69 4 (.bool false) 1 Try.underlying69 Binfo rfl .i64 .i64 L.length (by omega) (by omega) w
  go_enter Try.func62, Try.ntmps62
  go_wp2
  have hF0 : Flags ((w.alloc (.cells (madeCells #[.bool false] L.length) 4)).alloc (.cells #[.int .i64 (a : Int)] 3)) w.heap.size (List.replicate L.length false) :=
    (Flags.new w L.length).gr ((Gr.refl _ none).alloc _) (by simp)
  have hQ0 : Que ((w.alloc (.cells (madeCells #[.bool false] L.length) 4)).alloc (.cells #[.int .i64 (a : Int)] 3)) (w.heap.size + 1) (w.heap.size + 1) 0 1 1 (zs [a]) := by
    have := que_new (w.alloc (.cells (madeCells #[.bool false] L.length) 4)) (w.heap.size + 1) (by simp) a
    simpa using this
  have hG0 : Gr w ((w.alloc (.cells (madeCells #[.bool false] L.length) 4)).alloc (.cells #[.int .i64 (a : Int)] 3)) none := ((Gr.refl _ _).alloc _).alloc _
  have hS0 : Srch L [a] x (List.replicate L.length false) [a] := Srch.start (by simpa using ha)
  have hU0 : unmarked (List.replicate L.length false) ≤ L.length := by have := unmarked_le (List.replicate L.length false); simpa using this
  go_loopg [8, 9] (3 * unmarked (List.replicate L.length false) + 1) (fun g s8 _s9 wr => ∃ (f : List Bool) (W : List Nat) (n gq off cap : Nat), g = 3 * unmarked f + n ∧ g ≤ 301 ∧ s8 = .slice (some ⟨gq, off, none⟩) n cap ∧ W.length = n ∧
    Que wr (w.heap.size + 1) gq off n cap (zs W) ∧ Flags wr w.heap.size f ∧ Srch L [a] x f W ∧ Gr w wr none)
  case atStart => exact ⟨_, [a], 1, _, 0, 1, rfl, by omega, rfl, rfl, hQ0, hF0, hS0, hG0⟩
  case round =>
    obtain ⟨f, W, n, gq, off, cap, hg, hg1, rfl, hn, hQ, hF, hS, hG⟩ := hrel
    clear hmk hF0 hQ0 hG0 hS0 hU0
    rcases List.eq_nil_or_concat W with rfl | ⟨W0, k, rfl⟩
    · obtain rfl : n = 0 := by simpa using hn.symm
      go_wp2
      go_ret
      exact ⟨_, f, rfl, hF, hS.1, hS.done, hG, Nat.le_refl _⟩
    · rw [List.concat_eq_append] at hn hQ hS
      obtain ⟨m, hm⟩ : ∃ m, W0.length = m := ⟨_, rfl⟩
      obtain rfl : n = m + 1 := by simp at hn; omega
      clear hn
      have hk : k < L.length := hS.2.1 k (by simp)
      have hS' : Srch L [a] x f (k :: W0) := hS.perm (by intro j; simp [or_comm])
      rw [zs_app] at hQ
      have hQl : wr.cell? ⟨gq, off + m, none⟩ = some (.int .i64 (k : Int)) := by
        have := hQ.cell (j := m) (by simp [zs, hm])
        rw [this]
        simp [zs, hm]
      have hcap : m + 1 ≤ cap := hQ.2.2.2.1
      have hQp : Que wr (w.heap.size + 1) gq off m cap (zs W0) := by
        have := hQ.pop
        rw [zs_length, hm] at this
        exact this
      have hfl : k < f.length := by rw [hS.1]; exact hk
      have hfc := hF.cell hfl
      have hff := hF.free k
      obtain ⟨bk, ek⟩ : ∃ bk, f[k] = bk := ⟨_, rfl⟩
      rw [ek] at hfc
      have ek' : f[k]? = some bk := by rw [List.getElem?_eq_getElem hfl, ek]
      have hmb : m ≤ 301 := by omega
      have HS := Lib.hid hS'
      have HF := Lib.hid hF
      have HE := Lib.hid ek'
      have HQ := Lib.hid hQp
      have HG := Lib.hid hg
      clear hS hS' hF ek ek' hQ hQp hg
      by_cases hkx : (k : Int) = x
      · subst hkx
        go_wp2_with fail
        go_roundg (3 * unmarked f + m)
        case measure => have := HG.out; omega
        case rel => exact ⟨f, W0, m, gq, off, cap, rfl, by have := HG.out; omega, rfl, hm, HQ.out, HF.out, HS.out.drop (.inl rfl), hG⟩
      · cases bk with
        | true =>
          go_wp2_with fail
          go_roundg (3 * unmarked f + m)
          case measure => have := HG.out; omega
          case rel => exact ⟨f, W0, m, gq, off, cap, rfl, by have := HG.out; omega, rfl, hm, HQ.out, HF.out, HS.out.drop (.inr HE.out), hG⟩
        | false =>
          obtain ⟨b, po, rfl, an, cn, -, -, -, -, c4, hin, -⟩ := hP k hk
          replace c4 := hG.cell c4 (by simp)
          obtain ⟨q, eq⟩ : ∃ q, L[k] = q := ⟨_, rfl⟩
          rw [eq] at c4 hin
          have hqn : nextOf L k = q.next := by rw [nextOf_get hk, eq]
          have hql : q.next.length ≤ 2 := by rw [← hqn]; exact (hL k hk).1
          have HQN := Lib.hid hqn
          clear hqn eq
          rw [← zs_length] at c4 hql
          obtain ⟨ns, ens⟩ : ∃ ns, zs q.next = ns := ⟨_, rfl⟩
          rw [ens] at c4 hql hin
          have HN := Lib.hid ens
          clear ens
          have hsg : Gr wr (wr.setCell ⟨w.heap.size, k, none⟩ (.bool true)) (some w.heap.size) := own_set _ _ _ _
          have hsw : Gr w (wr.setCell ⟨w.heap.size, k, none⟩ (.bool true)) none := hG.setNew (Nat.le_refl _) _
          have hQs : Que (wr.setCell ⟨w.heap.size, k, none⟩ (.bool true)) (w.heap.size + 1) gq off m cap (zs W0) := HQ.out.gr hsg (by have := HQ.out.1; simp; omega)
          have his : InAt (wr.setCell ⟨w.heap.size, k, none⟩ (.bool true)) Any ns an := hin.gr0 hsw
          have hFs := (HF.out).set (k := k) true
          have HFS := Lib.hid hFs
          clear hFs
          go_wp2_with (at_builtin; refine app_q (wr.setCell ⟨w.heap.size, k, none⟩ (.bool true)) rfl (.tmp 41) (.tmp 46) rfl (w.heap.size + 1) gq off m cap (zs W0) rfl hQs an cn ns rfl his (by omega) ?_; rintro gq' off' cap' w' hQ' hg')
          have hun := unmarked_set f k HE.out
          have hgg := HG.out
          have hgq := HQ.out.1
          go_roundg (3 * unmarked (f.set k true) + (m + ns.length))
          case measure => omega
          case rel => exact ⟨f.set k true, W0 ++ q.next, m + ns.length, gq', off', cap', rfl, by omega, rfl, by rw [List.length_append, hm, ← HN.out, zs_length], by rw [zs_app, HN.out]; exact hQ', HFS.out.gr hg' (by simp; omega), by rw [← HQN.out]; exact HS.out.mark hL hkx, hsw.trans hg' (fun r hr => .inr (by simp at hr; omega))⟩
end Go.Proofs.Ytadidppbhpdnkaa

namespace Go.Proofs.Ytadidppbhpdnkaa

open Go.RowKit

set_option maxRecDepth 100000 in
set_option maxHeartbeats 2000000 in
theorem around_any (p : Pr) (gb a : Nat) (x : Int) (w : World) (hGA : GraphAt w p gb) (hl : (pts p).length ≤ 100) (ha : a < (pts p).length) :
    Calls Try.prog 61 #[.pointer (some ⟨gb, 0, none⟩), .int .i64 a, .int .i64 x] w (Marked (pts p) [a] x w) := by
  have hL := pts_next p
  obtain ⟨L, a3, n3, a4, n4, ao, co, hLp, d0, d1, d2, hr1, hr2, hP⟩ := hGA
  rw [← hLp] at hL hl ha ⊢
  have hgb : gb < w.heap.size := lt_of_cell d2
  clear hLp d0 d1 hr1 hr2
  have hmk := fun w : World => run_make_row' (P := Try.prog) 69 4 (.bool false) 1 Try.underlying69 Binfo rfl .i64 .i64 L.length (by omega) (by omega) w
  go_enter Try.func61, Try.ntmps61
  go_wp2
  have hF0 : Flags ((w.alloc (.cells (madeCells #[.bool false] L.length) 4)).alloc (.cells #[.int .i64 (a : Int)] 3)) w.heap.size (List.replicate L.length false) :=
    (Flags.new w L.length).gr ((Gr.refl _ none).alloc _) (by simp)
  have hQ0 : Que ((w.alloc (.cells (madeCells #[.bool false] L.length) 4)).alloc (.cells #[.int .i64 (a : Int)] 3)) (w.heap.size + 1) (w.heap.size + 1) 0 1 1 (zs [a]) := by
    have := que_new (w.alloc (.cells (madeCells #[.bool false] L.length) 4)) (w.heap.size + 1) (by simp) a
    simpa using this
  have hG0 : Gr w ((w.alloc (.cells (madeCells #[.bool false] L.length) 4)).alloc (.cells #[.int .i64 (a : Int)] 3)) none := ((Gr.refl _ _).alloc _).alloc _
  have hS0 : Srch L [a] x (List.replicate L.length false) [a] := Srch.start (by simpa using ha)
  have hU0 : unmarked (List.replicate L.length false) ≤ L.length := by have := unmarked_le (List.replicate L.length false); simpa using this
  go_loopg [8, 9] (3 * unmarked (List.replicate L.length false) + 1) (fun g s8 _s9 wr => ∃ (f : List Bool) (W : List Nat) (n gq off cap : Nat), g = 3 * unmarked f + n ∧ g ≤ 301 ∧ s8 = .slice (some ⟨gq, off, none⟩) n cap ∧ W.length = n ∧
    Que wr (w.heap.size + 1) gq off n cap (zs W) ∧ Flags wr w.heap.size f ∧ Srch L [a] x f W ∧ Gr w wr none)
  case atStart => exact ⟨_, [a], 1, _, 0, 1, rfl, by omega, rfl, rfl, hQ0, hF0, hS0, hG0⟩
  case round =>
    obtain ⟨f, W, n, gq, off, cap, hg, hg1, rfl, hn, hQ, hF, hS, hG⟩ := hrel
    clear hmk hF0 hQ0 hG0 hS0 hU0
    rcases W with _ | ⟨k, W0⟩
    · obtain rfl : n = 0 := by simpa using hn.symm
      go_wp2
      go_ret
      exact ⟨_, f, rfl, hF, hS.1, hS.done, hG, Nat.le_refl _⟩
    · obtain ⟨m, hm⟩ : ∃ m, W0.length = m := ⟨_, rfl⟩
      obtain rfl : n = m + 1 := by simp at hn; omega
      clear hn
      have hk : k < L.length := hS.2.1 k (by simp)
      have hS' := hS
      have hQl : wr.cell? ⟨gq, off, none⟩ = some (.int .i64 (k : Int)) := by
        have := hQ.cell (j := 0) (by simp [zs])
        simpa [zs] using this
      have hcap : m + 1 ≤ cap := hQ.2.2.2.1
      have hQp : Que wr (w.heap.size + 1) gq (off + 1) m (cap - 1) (zs W0) := by
        have hz : zs (k :: W0) = (k : Int) :: zs W0 := rfl
        rw [hz] at hQ
        have := hQ.tail
        rw [zs_length, hm] at this
        exact this
      replace d2 := hG.cell d2 (by simp)
      have hfl : k < f.length := by rw [hS.1]; exact hk
      have hfc := hF.cell hfl
      have hff := hF.free k
      obtain ⟨bk, ek⟩ : ∃ bk, f[k] = bk := ⟨_, rfl⟩
      rw [ek] at hfc
      have ek' : f[k]? = some bk := by rw [List.getElem?_eq_getElem hfl, ek]
      have hmb : m ≤ 301 := by omega
      have HS := Lib.hid hS'
      have HF := Lib.hid hF
      have HE := Lib.hid ek'
      have HQ := Lib.hid hQp
      have HG := Lib.hid hg
      clear hS hS' hF ek ek' hQ hQp hg
      go_upto_region 5 with fail
      go_cut [8] (fun s8 wx => ∃ off1, s8 = .slice (some ⟨gq, off1, none⟩) m (cap - 1) ∧ wr = wx ∧ Que wr (w.heap.size + 1) gq off1 m (cap - 1) (zs W0))
      case first =>
        by_cases hc1 : cap = 1
        · subst hc1
          have hq0 : Que wr (w.heap.size + 1) gq off m (1 - 1) (zs W0) := ⟨HQ.out.1, HQ.out.2.1, HQ.out.2.2.1, HQ.out.2.2.2.1, fun j hj => by omega, fun j u hu => by
            have := (List.getElem?_eq_some_iff.1 hu).1
            have := HQ.out.2.2.1
            rw [ints_length] at *
            omega⟩
          have HQ0 := Lib.hid hq0
          clear hq0
          go_wp2_with fail
          go_meet
          have hm0 : m = 0 := by omega
          subst hm0
          exact ⟨off, rfl, rfl, HQ0.out⟩
        · go_wp2_with fail
          go_meet
          exact ⟨off + 1, rfl, rfl, HQ.out⟩
      case rest =>
      clear HQ hQl
      obtain ⟨off1, rfl, rfl, hQ1⟩ := hcut
      have HQ := Lib.hid hQ1
      clear hQ1
      by_cases hkx : (k : Int) = x
      · subst hkx
        go_wp2_with fail
        go_roundg (3 * unmarked f + m)
        case measure => have := HG.out; omega
        case rel => exact ⟨f, W0, m, gq, off1, cap - 1, rfl, by have := HG.out; omega, rfl, hm, HQ.out, HF.out, HS.out.drop (.inl rfl), hG⟩
      · cases bk with
        | true =>
          go_wp2_with fail
          go_roundg (3 * unmarked f + m)
          case measure => have := HG.out; omega
          case rel => exact ⟨f, W0, m, gq, off1, cap - 1, rfl, by have := HG.out; omega, rfl, hm, HQ.out, HF.out, HS.out.drop (.inr HE.out), hG⟩
        | false =>
          obtain ⟨b, po, rfl, an, cn, -, -, -, -, c4, hin, -⟩ := hP k hk
          replace c4 := hG.cell c4 (by simp)
          obtain ⟨q, eq⟩ : ∃ q, L[k] = q := ⟨_, rfl⟩
          rw [eq] at c4 hin
          have hqn : nextOf L k = q.next := by rw [nextOf_get hk, eq]
          have hql : q.next.length ≤ 2 := by rw [← hqn]; exact (hL k hk).1
          have HQN := Lib.hid hqn
          clear hqn eq
          rw [← zs_length] at c4 hql
          obtain ⟨ns, ens⟩ : ∃ ns, zs q.next = ns := ⟨_, rfl⟩
          rw [ens] at c4 hql hin
          have HN := Lib.hid ens
          clear ens
          have hsg : Gr wr (wr.setCell ⟨w.heap.size, k, none⟩ (.bool true)) (some w.heap.size) := own_set _ _ _ _
          have d2s : (wr.setCell ⟨w.heap.size, k, none⟩ (.bool true)).cell? ⟨gb, 2, none⟩ = some (.slice (some ⟨b, po, none⟩) L.length co) := hsg.cell d2 (by simp; omega)
          have hsw : Gr w (wr.setCell ⟨w.heap.size, k, none⟩ (.bool true)) none := hG.setNew (Nat.le_refl _) _
          have hQs : Que (wr.setCell ⟨w.heap.size, k, none⟩ (.bool true)) (w.heap.size + 1) gq off1 m (cap - 1) (zs W0) := HQ.out.gr hsg (by have := HQ.out.1; simp; omega)
          have his : InAt (wr.setCell ⟨w.heap.size, k, none⟩ (.bool true)) Any ns an := hin.gr0 hsw
          have hFs := (HF.out).set (k := k) true
          have HFS := Lib.hid hFs
          clear hFs
          go_wp2_with (at_builtin; refine app_q (wr.setCell ⟨w.heap.size, k, none⟩ (.bool true)) rfl (.tmp 39) (.tmp 47) rfl (w.heap.size + 1) gq off1 m (cap - 1) (zs W0) rfl hQs an cn ns rfl his (by omega) ?_; rintro gq' off' cap' w' hQ' hg')
          have hun := unmarked_set f k HE.out
          have hgg := HG.out
          have hgq := HQ.out.1
          go_roundg (3 * unmarked (f.set k true) + (m + ns.length))
          case measure => omega
          case rel => exact ⟨f.set k true, W0 ++ q.next, m + ns.length, gq', off', cap', rfl, by omega, rfl, by rw [List.length_append, hm, ← HN.out, zs_length], by rw [zs_app, HN.out]; exact hQ', HFS.out.gr hg' (by simp; omega), by rw [← HQN.out]; exact HS.out.mark hL hkx, hsw.trans hg' (fun r hr => .inr (by simp at hr; omega))⟩
end Go.Proofs.Ytadidppbhpdnkaa

namespace Go.Proofs.Ytadidppbhpdnkaa

open Go.RowKit

/-- Whether a point can be reached, as a Bool. -/
noncomputable def reach (L : List Pt) (S : List Nat) (x : Int) (k : Nat) : Bool := @decide (Rch L S x k) (Classical.propDecidable _)
theorem reach_of {L : List Pt} {S : List Nat} {x : Int} {f : List Bool} (h : ∀ k : Nat, f[k]? = some true ↔ Rch L S x k) {k : Nat} (hk : k < f.length) : f[k] = reach L S x k := by
  unfold reach
  cases e : f[k] with
  | true =>
    have := (h k).1 (by rw [List.getElem?_eq_getElem hk, e])
    simp [this]
  | false =>
    have : ¬ Rch L S x k := fun hr => by
      have := (h k).2 hr
      rw [List.getElem?_eq_getElem hk, e] at this
      simp at this
    simp [this]
theorem Marked.cell {L : List Pt} {S : List Nat} {x : Int} {w' : World} {gf : Nat} {f : List Bool} (hF : Flags w' gf f) (hl : f.length = L.length) (h : ∀ k : Nat, f[k]? = some true ↔ Rch L S x k) {k : Nat} (hk : k < L.length) :
    w'.cell? ⟨gf, k, none⟩ = some (.bool (reach L S x k)) := by
  rw [hF.cell (by omega), reach_of h]

/-- Whether a program has both points. -/
def hasTwo (p : Pr) (a b : Int) : Bool := decide (0 ≤ a) && decide (a < (ptsOf p).length) && decide (0 ≤ b) && decide (b < (ptsOf p).length)
set_option maxHeartbeats 1000000 in
theorem l12Has_any (p : Pr) (a b : Int) (at' ab : Option Addr) (ct cb : Nat) (w : World) (hT : InAt w Any p.types at') (hB : SlAt w Any p.body ab) (hs : p.types.length ≤ 1048576) (hc : St.count p.body ≤ 1048576) :
    Calls Try.prog 49 #[.agg #[.slice at' p.types.length ct, .slice ab p.body.length cb], .int .i64 a, .int .i64 b] w fun e w' => e = .returned (.bool (hasTwo p a b)) ∧ Gr w w' none := by
  have hg1 : ∀ o, Gr w (w.alloc o) none := fun o => (Gr.refl _ _).alloc _
  go_enter Try.func49, Try.ntmps49
  go_wp2_with fail
  refine (specPointsOf_any p at' ab ct cb _ (hT.gr0 (hg1 _)) (hB.gr0 (hg1 _)) hs hc).mono ?_
  rintro e w1 ⟨L, al, c, hL, rfl, hown, hg⟩
  have hG1 : Gr w w1 none := (hg1 _).trans0 hg
  have hLl : L.length ≤ 61 := by rw [hL]; exact ptsOf_le p
  have hP : hasTwo p a b = (decide (0 ≤ a) && decide (a < L.length) && decide (0 ≤ b) && decide (b < L.length)) := by unfold hasTwo; rw [hL]
  have HP := Lib.hid hP
  clear hP hL hown hg
  by_cases h0 : 0 ≤ a
  · have H0 := Lib.hid (decide_eq_true h0)
    by_cases h1 : a < L.length
    · have H1 := Lib.hid (decide_eq_true h1)
      by_cases h2 : 0 ≤ b
      · have H2 := Lib.hid (decide_eq_true h2)
        by_cases h3 : b < L.length
        · have H3 := Lib.hid (decide_eq_true h3)
          go_wp2_with fail
          go_ret
          exact ⟨ret_bool (by rw [HP.out, H0.out, H1.out, H2.out, H3.out]; rfl), hG1⟩
        · have H3 := Lib.hid (decide_eq_false h3)
          go_wp2_with fail
          go_ret
          exact ⟨ret_bool (by rw [HP.out, H0.out, H1.out, H2.out, H3.out]; rfl), hG1⟩
      · have H2 := Lib.hid (decide_eq_false h2)
        go_wp2_with fail
        go_ret
        exact ⟨ret_bool (by rw [HP.out, H0.out, H1.out, H2.out]; rfl), hG1⟩
    · have H1 := Lib.hid (decide_eq_false h1)
      go_wp2_with fail
      go_ret
      exact ⟨ret_bool (by rw [HP.out, H0.out, H1.out]; rfl), hG1⟩
  · have H0 := Lib.hid (decide_eq_false h0)
    go_wp2_with fail
    go_ret
    exact ⟨ret_bool (by rw [HP.out, H0.out]; rfl), hG1⟩
theorem hasTwo_in {p : Pr} {a b : Int} (h : hasTwo p a b = true) : ∃ j k : Nat, a = j ∧ b = k ∧ j < (ptsOf p).length ∧ k < (ptsOf p).length ∧ validP p = true ∧ ptsOf p = pts p := by
  unfold hasTwo at h
  simp at h
  have hv : validP p = true := by
    cases hv : validP p with
    | true => rfl
    | false => exfalso; unfold ptsOf at h; rw [hv] at h; simp at h; omega
  exact ⟨a.toNat, b.toNat, by omega, by omega, by omega, by omega, hv, by unfold ptsOf; rw [if_pos hv]⟩

/-! ### Dominating -/

noncomputable def domL (L : List Pt) (j k : Nat) : Bool := decide (j = k) || !reach L [0] j k
set_option maxHeartbeats 1000000 in
theorem l12Dominates_any (L : List Pt) (ao : Option Addr) (co j k : Nat) (w : World) (hP : PtsAt w L ao) (hL : NextOk L) (hl : L.length ≤ 100) (hk : k < L.length) :
    Calls Try.prog 50 #[.slice ao L.length co, .int .i64 j, .int .i64 k] w fun e w' => e = .returned (.bool (domL L j k)) ∧ Gr w w' none := by
  go_enter Try.func50, Try.ntmps50
  by_cases e : j = k
  · subst e
    go_wp2_with fail
    go_ret
    exact ⟨ret_bool (by simp [domL]), Gr.refl _ _⟩
  · have e' : ¬ (j : Int) = (k : Int) := by omega
    go_wp2_with fail
    refine (l12Reach_any L ao co 0 j _ hP hL hl (by omega)).mono ?_
    rintro e w1 ⟨gf, f, rfl, hF, hfl, hr, hg, _⟩
    have hc := Marked.cell hF hfl hr hk
    clear hF hr
    go_wp2_with fail
    go_ret
    exact ⟨ret_bool (by simp [domL, e]), hg⟩
set_option maxHeartbeats 1000000 in
theorem dominates_any (p : Pr) (gb j k : Nat) (w : World) (hG : GraphAt w p gb) (hl : (pts p).length ≤ 100) (hk : k < (pts p).length) :
    Calls Try.prog 48 #[.pointer (some ⟨gb, 0, none⟩), .int .i64 j, .int .i64 k] w fun e w' => e = .returned (.bool (domL (pts p) j k)) ∧ Gr w w' none := by
  go_enter Try.func48, Try.ntmps48
  by_cases e : j = k
  · subst e
    go_wp2_with fail
    go_ret
    exact ⟨ret_bool (by simp [domL]), Gr.refl _ _⟩
  · have e' : ¬ (j : Int) = (k : Int) := by omega
    go_wp2_with fail
    refine (around_any p gb 0 j _ hG hl (by omega)).mono ?_
    rintro e w1 ⟨gf, f, rfl, hF, hfl, hr, hg, _⟩
    have hc := Marked.cell hF hfl hr hk
    clear hF hr
    go_wp2_with fail
    go_ret
    exact ⟨ret_bool (by simp [domL, e]), hg⟩
end Go.Proofs.Ytadidppbhpdnkaa

namespace Go.Proofs.Ytadidppbhpdnkaa

open Go.RowKit

/-- What Dominates says. -/
noncomputable def dominates (p : Pr) (a b : Int) : Bool := hasTwo p a b && domL (ptsOf p) a.toNat b.toNat
theorem dominates_in {p : Pr} {j k : Nat} (h : hasTwo p j k = true) : dominates p j k = domL (ptsOf p) j k := by simp [dominates, h]
theorem dominates_out {p : Pr} {a b : Int} (h : hasTwo p a b = false) : dominates p a b = false := by simp [dominates, h]

set_option maxHeartbeats 1000000 in
theorem specDominates_any (p : Pr) (a b : Int) (at' ab : Option Addr) (ct cb : Nat) (w : World) (hT : InAt w Any p.types at') (hB : SlAt w Any p.body ab) (hs : p.types.length ≤ 1048576) (hc : St.count p.body ≤ 1048576) :
    Calls Try.prog 18 #[.agg #[.slice at' p.types.length ct, .slice ab p.body.length cb], .int .i64 a, .int .i64 b] w fun e w' => e = .returned (.bool (dominates p a b)) ∧ Gr w w' none := by
  have hlc := count_length p.body
  have hg1 : ∀ o, Gr w (w.alloc o) none := fun o => (Gr.refl _ _).alloc _
  go_enter Try.func18, Try.ntmps18
  go_wp2_with fail
  refine (l12Has_any p a b at' ab ct cb _ (hT.gr0 (hg1 _)) (hB.gr0 (hg1 _)) hs hc).mono ?_
  rintro e w1 ⟨rfl, hg⟩
  have hG1 : Gr w w1 none := (hg1 _).trans0 hg
  have q0 : w1.cell? ⟨w.heap.size, 0, none⟩ = some (.slice at' p.types.length ct) := hg.cell (p := ⟨w.heap.size, 0, none⟩) (cell?_new2 _ _).1 (by simp)
  have q1 : w1.cell? ⟨w.heap.size, 1, none⟩ = some (.slice ab p.body.length cb) := hg.cell (p := ⟨w.heap.size, 1, none⟩) (cell?_new2 _ _).2 (by simp)
  clear hg
  cases h2 : hasTwo p a b with
  | false =>
    have HO := Lib.hid (dominates_out h2)
    clear h2
    go_wp2_with fail
    go_ret
    exact ⟨ret_bool HO.out.symm, hG1⟩
  | true =>
    obtain ⟨j, k, rfl, rfl, hj, hk, hv, hpp⟩ := hasTwo_in h2
    have hcnt := valid_count hv
    have HO := Lib.hid (dominates_in h2)
    have hml := ptsOf_le p
    have HN := Lib.hid (show NextOk (ptsOf p) by rw [hpp]; exact pts_next p)
    have HPP := Lib.hid hpp
    clear h2 hv hpp
    go_wp2_with fail
    refine (l2Points_any p at' ab ct cb _ (hB.gr0 hG1) (by omega) (by unfold maxLen; omega)).mono ?_
    rintro e w2 ⟨M, am, c, hM, rfl, hown, hg2⟩
    have hMp : M = ptsOf p := hM.trans HPP.out.symm
    clear hM
    subst hMp
    go_wp2_with fail
    refine (l12Dominates_any (ptsOf p) am c j k _ hown.read HN.out (by omega) hk).mono ?_
    rintro e w3 ⟨rfl, hg3⟩
    go_wp2_with fail
    go_ret
    exact ⟨ret_bool HO.out.symm, (hG1.trans0 hg2).trans0 hg3⟩

/-- Two points, as graphOf takes them. -/
theorem graphOk_two (p : Pr) (a b : Int) : graphOk p [a, b] = hasTwo p a b := by
  unfold graphOk hasTwo ptsOf
  cases h : validP p with
  | true => rw [Bool.eq_iff_iff]; simp [within]; omega
  | false => rw [Bool.eq_iff_iff]; simp
theorem inAt_two (w : World) (A : Obj) (a b : Int) : InAt ((w.alloc A).alloc (.cells #[.int .i64 a, .int .i64 b] 3)) Any [a, b] (some ⟨w.heap.size + 1, 0, none⟩) := by
  refine InAt.of fun j hj => ⟨trivial, ?_⟩
  rw [cell_of_row _ _ _ _ _ _ (heap2_1 _ _ _)]
  have : j = 0 ∨ j = 1 := by simp at hj; omega
  rcases this with rfl | rfl <;> rfl

set_option maxHeartbeats 1000000 in
theorem implDominates_any (p : Pr) (a b : Int) (at' ab : Option Addr) (ct cb : Nat) (w : World) (hT : InAt w Any p.types at') (hB : SlAt w Any p.body ab) (hs : p.types.length ≤ 1048576) (hc : p.body.length ≤ 1048576) :
    Calls Try.prog 17 #[.agg #[.slice at' p.types.length ct, .slice ab p.body.length cb], .int .i64 a, .int .i64 b] w fun e w' => e = .returned (.bool (dominates p a b)) ∧ Gr w w' none := by
  have hg1 : ∀ o o', Gr w ((w.alloc o).alloc o') none := fun o o' => ((Gr.refl _ _).alloc _).alloc _
  go_enter Try.func17, Try.ntmps17
  go_wp2_with fail
  refine (graphOf_any p [a, b] at' ab _ ct cb _ _ (hT.gr0 (hg1 _ _)) (hB.gr0 (hg1 _ _)) (inAt_two _ _ _ _) hs hc (by simp)).mono ?_
  rintro e w1 ⟨hg, hif⟩
  have hG1 : Gr w w1 none := (hg1 _ _).trans0 hg
  rw [graphOk_two] at hif
  cases h2 : hasTwo p a b with
  | true =>
    rw [h2, if_pos rfl] at hif
    obtain ⟨gb, rfl, hgb, hGA⟩ := hif
    obtain ⟨j, k, rfl, rfl, hj, hk, hv, hpp⟩ := hasTwo_in h2
    have hml := ptsOf_le p
    have HO := Lib.hid (show domL (pts p) j k = dominates p j k by rw [dominates_in h2, hpp])
    rw [hpp] at hml hj hk
    clear h2 hv hpp
    go_wp2_with fail
    refine (dominates_any p gb j k _ hGA (by omega) hk).mono ?_
    rintro e w3 ⟨rfl, hg3⟩
    go_wp2_with fail
    go_ret
    exact ⟨ret_bool HO.out, hG1.trans0 hg3⟩
  | false =>
    rw [h2, if_neg (by simp)] at hif
    subst hif
    have HO := Lib.hid (dominates_out h2)
    clear h2
    go_wp2_with fail
    go_ret
    exact ⟨ret_bool HO.out.symm, hG1⟩

/-! ### Always reaching -/

noncomputable def alwL (L : List Pt) (j k : Nat) : Bool := decide (j = k) || !reach L [j] k (L.length - 1)
/-- What AlwaysReaches says. -/
noncomputable def alwaysReaches (p : Pr) (a b : Int) : Bool := hasTwo p a b && alwL (ptsOf p) a.toNat b.toNat
theorem alwaysReaches_in {p : Pr} {j k : Nat} (h : hasTwo p j k = true) : alwaysReaches p j k = alwL (ptsOf p) j k := by simp [alwaysReaches, h]
theorem alwaysReaches_out {p : Pr} {a b : Int} (h : hasTwo p a b = false) : alwaysReaches p a b = false := by simp [alwaysReaches, h]
set_option maxHeartbeats 1000000 in
theorem specAlwaysReaches_any (p : Pr) (a b : Int) (at' ab : Option Addr) (ct cb : Nat) (w : World) (hT : InAt w Any p.types at') (hB : SlAt w Any p.body ab) (hs : p.types.length ≤ 1048576) (hc : St.count p.body ≤ 1048576) :
    Calls Try.prog 29 #[.agg #[.slice at' p.types.length ct, .slice ab p.body.length cb], .int .i64 a, .int .i64 b] w fun e w' => e = .returned (.bool (alwaysReaches p a b)) ∧ Gr w w' none := by
  have hlc := count_length p.body
  have hg1 : ∀ o, Gr w (w.alloc o) none := fun o => (Gr.refl _ _).alloc _
  go_enter Try.func29, Try.ntmps29
  go_wp2_with fail
  refine (l12Has_any p a b at' ab ct cb _ (hT.gr0 (hg1 _)) (hB.gr0 (hg1 _)) hs hc).mono ?_
  rintro e w1 ⟨rfl, hg⟩
  have hG1 : Gr w w1 none := (hg1 _).trans0 hg
  have q0 : w1.cell? ⟨w.heap.size, 0, none⟩ = some (.slice at' p.types.length ct) := hg.cell (p := ⟨w.heap.size, 0, none⟩) (cell?_new2 _ _).1 (by simp)
  have q1 : w1.cell? ⟨w.heap.size, 1, none⟩ = some (.slice ab p.body.length cb) := hg.cell (p := ⟨w.heap.size, 1, none⟩) (cell?_new2 _ _).2 (by simp)
  clear hg
  cases h2 : hasTwo p a b with
  | false =>
    have HO := Lib.hid (alwaysReaches_out h2)
    clear h2
    go_wp2_with fail
    go_ret
    exact ⟨ret_bool HO.out.symm, hG1⟩
  | true =>
    obtain ⟨j, k, rfl, rfl, hj, hk, hv, hpp⟩ := hasTwo_in h2
    have hcnt := valid_count hv
    have HO := Lib.hid (alwaysReaches_in h2)
    have hml := ptsOf_le p
    have HN := Lib.hid (show NextOk (ptsOf p) by rw [hpp]; exact pts_next p)
    have HPP := Lib.hid hpp
    clear h2 hv hpp
    go_wp2_with fail
    refine (l2Points_any p at' ab ct cb _ (hB.gr0 hG1) (by omega) (by unfold maxLen; omega)).mono ?_
    rintro e w2 ⟨M, am, c, hM, rfl, hown, hg2⟩
    have hMp : ptsOf p = M := (hM.trans HPP.out.symm).symm
    clear hM
    have HMP := Lib.hid hMp
    rw [hMp] at hml hj hk
    have HN' := Lib.hid (show NextOk M by rw [← hMp]; exact HN.out)
    obtain ⟨m, hm⟩ : ∃ m, M.length = m + 1 := ⟨M.length - 1, by omega⟩
    clear hMp HN
    by_cases e : j = k
    · subst e
      go_wp2_with fail
      go_ret
      exact ⟨ret_bool (by rw [HO.out]; simp [alwL]), hG1.trans0 hg2⟩
    · have e' : ¬ (j : Int) = (k : Int) := by omega
      have HM := Lib.hid hm
      have hmb : m ≤ 100 := by omega
      clear hm
      go_wp2_with fail
      refine (l12Reach_any M am c j k _ hown.read HN'.out (by omega) hj).mono ?_
      rintro e w3 ⟨gf, f, rfl, hF, hfl, hr, hg3, _⟩
      have hc := Marked.cell hF hfl hr (k := m) (by have := HM.out; omega)
      clear hF hr hfl hown
      have hm := HM.out
      clear hml hj hk
      go_wp2_with fail
      go_ret
      exact ⟨ret_bool (by rw [HO.out, HMP.out]; simp [alwL, e, HM.out]), (hG1.trans0 hg2).trans0 hg3⟩
end Go.Proofs.Ytadidppbhpdnkaa
