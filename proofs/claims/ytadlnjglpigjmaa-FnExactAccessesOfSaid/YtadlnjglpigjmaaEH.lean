/- What has a value before each point: the walk of l3Forward of the reference, with its list of points still to be met. -/
import Derived.Test.YtadlnjglpigjmaaEG

import Derived.Deep.LoopGhost

import Derived.Deep.RegionHeld3

namespace Go.Proofs.Ytadlnjglpigjmaa

open Go.RowKit

/-- append of a list that is read to a list of the call's own, at whatever length: it stays where it is, or lies in new memory. -/
theorem app_q2 (w : World) {ops : Array Oper} {rest : List Oper} {o : Oper} {a : Act} {Q : Exit → Act → World → Prop} (hgd : o.guard = none) (s x : Operand)
    (ho : o.op = .call { callee := .builtin .append, args := #[s, x], argTypes := #[22, 22] })
    (base g off n cap : Nat) (l : List Int) (hs : a.eval s = .slice (some ⟨g, off, none⟩) n cap) (hq : Que w base g off n cap l)
    (an : Option Addr) (cn : Nat) (m : List Int) (hx : a.eval x = .slice an m.length cn) (hm : InAt w Any m an) (hlen : n + m.length ≤ 1048576)
    (h : ∀ (g' off' cap' : Nat) (w' : World), Que w' base g' off' (n + m.length) cap' (l ++ m) → (g' = g ∨ w.heap.size ≤ g') → Gr w w' (some g) →
      wpList Try.prog ops Q rest (a.put o.dst (.slice (some ⟨g', off', none⟩) (n + m.length) cap')) w') : wpList Try.prog ops Q (o :: rest) a w := by
  obtain ⟨h1, h2, h3, h4, h5, h6⟩ := hq
  obtain ⟨i, hi, hz, hsz, hby⟩ : ∃ i, Try.prog.info? 3 = some i ∧ i.zero = some (.int .i64 0) ∧ i.size = 1 ∧ i.bytes = 8 := by
    have := Qinfo
    cases hi : Try.prog.info? 3 with
    | none => rw [hi] at this; simp at this
    | some i => rw [hi] at this; simp at this; exact ⟨i, rfl, this.1, this.2.1, this.2.2⟩
  by_cases hne : m.length = 0
  · have hm0 : m = [] := List.eq_nil_of_length_eq_zero hne
    subst hm0
    refine wpList_plain hgd fun K hK => ?_
    have hrun : (Builtin.append_ #[22, 22] o.type #[.slice (some ⟨g, off, none⟩) n cap, .slice an 0 cn]).run Try.prog w = .ok (.slice (some ⟨g, off, none⟩) n cap) w := by
      cases an with
      | none => simp [Builtin.append_, run_underlying Try.underlying22, sizeOf, typeInfo, hi, Builtin.lenOf, Builtin.firstCells, h4, storeCells]
      | some ad =>
        have := run_append_room_cells (P := Try.prog) w 22 o.type 3 i Try.underlying22 hi g off n cap ad 0 cn [] (by simp) (by simp) (by simp) (by simpa using h4) (by simp) (by simp)
        simpa [World.setCells] using this
    unfold Oper.wp
    simp at hx
    simp [execOp, ho, resolve, invoke, builtin, hs, hx, hrun, Result.andThen]
    have := h g off cap w ⟨h1, h2, by simpa using h3, by simpa using h4, h5, by simpa using h6⟩ (.inl rfl) (Gr.refl _ _)
    simp at this
    exact hK _ _ this
  · have hpos : 0 < m.length := by omega
    obtain ⟨ad, rfl⟩ : ∃ ad, an = some ad := by
      cases an with
      | some ad => exact ⟨ad, rfl⟩
      | none => obtain ⟨_, _, e, _⟩ := hm.at hpos; simp at e
    have hsp := hm.addr hpos
    obtain ⟨ab, ao, asp⟩ := ad
    simp at hsp
    subst hsp
    refine wpList_append_arg w hgd s x 22 ho 3 i (.int .i64 0) 1 8 Try.underlying22 hi hz hsz hby rfl (by omega) g off n cap (ints l) hs (by simpa [ints] using h3) h6
      ⟨ab, ao, none⟩ m.length cn (ints m) hx (by simp [ints]) ?_ (ints_one m) ?_ (by unfold maxLen; omega) (by omega) ?_ ?_
    · intro j u hu
      have hj : j < m.length := by simpa [ints] using (List.getElem?_eq_some_iff.1 hu).1
      obtain ⟨b', o', e, _, hc⟩ := hm.at hj
      cases e
      rw [Addr.add_lit]
      rw [hc]
      simpa [ints, hj] using hu
    · intro hr j hj
      have := h5 (n + j) (by rw [ints_length] at hj; omega)
      rw [show off + n * 1 + j = off + (n + j) from by omega]
      exact this
    · intro hr
      have hgr : Gr w (w.setCells g (off + n * 1) (ints m)) (some g) := setCells_gr g _ _ w
      refine h g off cap _ ⟨h1, Nat.lt_of_lt_of_le h2 hgr.size, by simp [h3], hr, fun j hj => ⟨?_, ?_⟩, ?_⟩ (.inl rfl) hgr
      · exact World.isSome_setCells g _ _ w _ (h5 j hj).1
      · rw [World.frozen?_setCells]; exact (h5 j hj).2
      · intro j u hu
        simp only [ints, List.map_append] at hu
        by_cases hj : j < l.length
        · rw [List.getElem?_append_left (by simpa using hj)] at hu
          rw [World.cell?_setCells_out]
          · exact h6 j u hu
          · intro _ _; left; simp; omega
        · rw [List.getElem?_append_right (by simpa using hj)] at hu
          have hj2 := (List.getElem?_eq_some_iff.1 hu).1
          have := World.cell?_setCells_in g (ints m) (off + n * 1) w (fun k hk => by
            have := (h5 (n + k) (by rw [ints_length] at hk; omega)).1
            rw [show off + n * 1 + k = off + (n + k) from by omega]
            exact this) (j - l.length) (by simpa [ints] using hj2)
          rw [show off + j = off + n * 1 + (j - l.length) from by omega, this]
          have e : (List.map (fun x => Value.int .i64 x) l).length = l.length := by simp
          rw [e] at hu hj2
          rw [List.getElem?_eq_getElem hj2] at hu
          exact hu
    · intro hgrow v' w' hown hgr
      obtain ⟨g', cap', rfl⟩ := own_some hown (by omega)
      have hq := Que.of_own (l := l ++ m) (by simpa [ints] using own_mono hown (Nat.le_trans h1 (Nat.le_of_lt h2)))
      have hq2 := Que.of_own (l := l ++ m) (by simpa [ints] using hown)
      exact h g' 0 cap' w' hq (.inr hq2.1) (Gr.weaken hgr)

/-- A list of rows of marks: those that are there, and nothing in the other places. -/
def OutE (w : World) (g n N : Nat) (s : Nat → Bool) (B C : Nat → Nat) (G : Nat → Nat → Bool) : Prop :=
  ∃ arr : Array Value, w.heap[g]? = some (.cells arr 54 (0, 0)) ∧ arr.size = n ∧ ∀ i, i < n → arr[i]? = some (if s i = true then .slice (some ⟨B i, 0, none⟩) N (C i) else .slice none 0 0) ∧ (s i = true → RowE w (B i) N (C i) (G i))
theorem OutE.lt {w : World} {g n N : Nat} {s : Nat → Bool} {B C : Nat → Nat} {G : Nat → Nat → Bool} (h : OutE w g n N s B C G) : g < w.heap.size := by
  obtain ⟨arr, h1, _⟩ := h; exact lt_of_block h1
theorem OutE.free {w : World} {g n N : Nat} {s : Nat → Bool} {B C : Nat → Nat} {G : Nat → Nat → Bool} (h : OutE w g n N s B C G) (j : Nat) : w.frozen? ⟨g, j, none⟩ = false := by
  obtain ⟨arr, h1, _⟩ := h; simp [World.frozen?, h1]
theorem OutE.cell {w : World} {g n N : Nat} {s : Nat → Bool} {B C : Nat → Nat} {G : Nat → Nat → Bool} (h : OutE w g n N s B C G) {i : Nat} (hi : i < n) : w.cell? ⟨g, i, none⟩ = some (if s i = true then .slice (some ⟨B i, 0, none⟩) N (C i) else .slice none 0 0) := by
  obtain ⟨arr, h1, _, h3⟩ := h
  rw [cell_of_row w g i _ _ _ h1]; exact (h3 i hi).1
theorem OutE.row {w : World} {g n N : Nat} {s : Nat → Bool} {B C : Nat → Nat} {G : Nat → Nat → Bool} (h : OutE w g n N s B C G) {i : Nat} (hi : i < n) (hs : s i = true) : RowE w (B i) N (C i) (G i) := by
  obtain ⟨arr, h1, _, h3⟩ := h
  exact (h3 i hi).2 hs
theorem RowE.off {w : World} {g n c : Nat} {F : Nat → Bool} (h : RowE w g n c F) {b : Nat} {cs : Array Value} {t : TypeId} {x : Nat × Nat} (hb : w.heap[b]? = some (.cells cs t x)) (ht : t ≠ 4) : b ≠ g := by
  rintro rfl
  obtain ⟨arr, h1, _⟩ := h
  rw [hb] at h1
  simp at h1
  exact ht h1.2.1
theorem OutE.gr {w w' : World} {g n N : Nat} {s : Nat → Bool} {B C : Nat → Nat} {G : Nat → Nat → Bool} {row : Option Nat} (h : OutE w g n N s B C G) (hg : Gr w w' row) (hr : row ≠ some g) (hB : ∀ i, i < n → s i = true → row ≠ some (B i)) : OutE w' g n N s B C G := by
  have hlt := h.lt
  obtain ⟨arr, h1, h2, h3⟩ := h
  refine ⟨arr, by rw [hg.block g hlt (fun e => hr e.symm)]; exact h1, h2, fun i hi => ⟨(h3 i hi).1, fun hs => ((h3 i hi).2 hs).gr hg (hB i hi hs)⟩⟩
theorem OutE.gr0 {w w' : World} {g n N : Nat} {s : Nat → Bool} {B C : Nat → Nat} {G : Nat → Nat → Bool} (h : OutE w g n N s B C G) (hg : Gr w w' none) : OutE w' g n N s B C G := h.gr hg (by simp) (fun _ _ _ => by simp)
def updE (F : Nat → Nat) (k x : Nat) : Nat → Nat := fun i => if i = k then x else F i
theorem OutE.set {w : World} {g n N k b c : Nat} {s : Nat → Bool} {B C : Nat → Nat} {G : Nat → Nat → Bool} {H : Nat → Bool} (h : OutE w g n N s B C G) (hR : RowE w b N c H) : OutE (w.setCell ⟨g, k, none⟩ (.slice (some ⟨b, 0, none⟩) N c)) g n N (updSeen s k) (updE B k b) (updE C k c) (updF G k H) := by
  have hg := own_set w g k (.slice (some ⟨b, 0, none⟩) N c)
  obtain ⟨arr, h1, h2, h3⟩ := h
  have hoff : ∀ g' m c F, RowE w g' m c F → some g ≠ some g' := fun g' m c F hr e => hr.off h1 (by decide) (by simpa using e)
  refine ⟨_, row_set _ h1, by simpa using h2, fun i hi => ?_⟩
  by_cases e : i = k
  · subst e
    rw [Array.getElem?_setIfInBounds_self, if_pos (by omega)]
    refine ⟨by simp [updSeen, updE], fun _ => ?_⟩
    have : updF G i H i = H := by funext v; unfold updF; rw [if_pos rfl]
    rw [this]
    simp only [updE, if_true]
    exact hR.gr hg (hoff _ _ _ _ hR)
  · rw [Array.getElem?_setIfInBounds_ne (fun h => e h.symm), (h3 i hi).1]
    refine ⟨by simp [updSeen, updE, e], fun hs => ?_⟩
    have hs' : s i = true := by simpa [updSeen, e] using hs
    have : updF G k H i = G i := by funext v; unfold updF; rw [if_neg e]
    rw [this]
    simp only [updE, if_neg e]
    exact ((h3 i hi).2 hs').gr hg (hoff _ _ _ _ ((h3 i hi).2 hs'))
theorem OutE.new (w : World) (n N : Nat) (B C : Nat → Nat) (G : Nat → Nat → Bool) : OutE (w.alloc (.cells (madeCells #[.slice none 0 0] n) 54)) w.heap.size n N (fun _ => false) B C G := by
  refine ⟨_, heap1_0 _ _, by simp [madeCells], fun i hi => ⟨?_, fun h => by cases h⟩⟩
  rw [← Array.getElem?_toList, toList_madeCells_one, List.getElem?_replicate, if_pos hi]; rfl
theorem inAt_1 (w : World) (a : Int) : InAt (w.alloc (.cells #[.int .i64 a] 3)) Any [a] (some ⟨w.heap.size, 0, none⟩) := by
  refine InAt.of fun j hj => ⟨trivial, ?_⟩
  rw [cell_of_row _ _ _ _ _ _ (heap1_0 _ _)]
  have : j = 0 := by simp at hj; omega
  subst this; rfl
/-- What l3Forward hands back. -/
noncomputable def fwdB (all : Bool) (p : Pr) (i v : Nat) : Bool := if all = true then !unB p (fun _ => false) i v else mayB p i v
/-- A list of rows of marks, to be read. -/
def TabE (w : World) (g n N : Nat) (F : Nat → Nat → Bool) : Prop := ∀ i, i < n → ∃ b c, w.cell? ⟨g, i, none⟩ = some (.slice (some ⟨b, 0, none⟩) N c) ∧ RowE w b N c (F i)
def TabledE (p : Pr) (F : Nat → Nat → Bool) (w : World) (e : Ending) (w' : World) : Prop := ∃ g : Nat, e = .returned (.slice (some ⟨g, 0, none⟩) (pts p).length (pts p).length) ∧ TabE w' g (pts p).length p.types.length F ∧ Gr w w' none
set_option maxRecDepth 100000 in
set_option maxHeartbeats 8000000 in
theorem l3Forward_any (p : Pr) (all : Bool) (at' ab : Option Addr) (ct cb : Nat) (w : World) (hT : InAt w Any p.types at') (hB : SlAt w Any p.body ab) (hv : validP p = true) :
    Calls Try.prog 57 #[.agg #[.slice at' p.types.length ct, .slice ab p.body.length cb], .bool all] w (TabledE p (fwdB all p) w) := by
  have hcnt := valid_count hv
  have hlc := count_length p.body
  have hpl : p.types.length ≤ 6 := valid_types hv
  have hml : (pts p).length ≤ 61 := pts_len hv
  have hpos := pts_pos' p
  have HNX := Lib.hid (pts_next p)
  have HV := Lib.hid hv
  clear hv
  have hg1 : ∀ o, Gr w (w.alloc o) none := fun o => (Gr.refl _ _).alloc _
  have HT0 := Lib.hid hT
  go_enter Try.func57, Try.ntmps57
  go_wp2_with fail
  refine (l2Points_any p at' ab ct cb _ (hB.gr0 (hg1 _)) (by omega) (by unfold maxLen; omega)).mono ?_
  rintro e w1 ⟨L, am, c, hM, rfl, hown, hg⟩
  have hG1 : Gr w w1 none := (hg1 _).trans0 hg
  have HM := Lib.hid hM
  have HR := Lib.hid hown.read
  rw [← hM] at hml HNX hpos
  have q0 : w1.cell? ⟨w.heap.size, 0, none⟩ = some (.slice at' p.types.length ct) := hg.cell (p := ⟨w.heap.size, 0, none⟩) (cell_of_row _ _ _ _ _ _ (heap1_0 _ _)) (by simp)
  have HQ0 := Lib.hid q0
  have HG1 := Lib.hid hG1
  have hwlt : w.heap.size < w1.heap.size := lt_of_cell q0
  obtain ⟨n, hn⟩ : ∃ n, L.length = n := ⟨_, rfl⟩
  have HN := Lib.hid hn
  rw [hn] at hml hpos ⊢
  obtain ⟨N, hNN⟩ : ∃ N, p.types.length = N := ⟨_, rfl⟩
  have HNN := Lib.hid hNN
  rw [hNN] at hpl q0 HQ0
  clear hM hown hg hB hT hG1
  have hmkO := fun w : World => run_make_row' (P := Try.prog) 55 54 (.slice none 0 0) 24 Try.underlying55 SBinfo rfl .i64 .i64 n (by omega) (by omega) w
  have hmkB := fun w : World => run_make_row' (P := Try.prog) 54 4 (.bool false) 1 Try.underlying54 Binfo rfl .i64 .i64 n (by omega) (by omega) w
  have hmkN := fun w : World => run_make_row' (P := Try.prog) 54 4 (.bool false) 1 Try.underlying54 Binfo rfl .i64 .i64 N (by omega) (by omega) w
  go_upto_region 3 with fail
  have hO0 := OutE.new w1 n N (fun _ => 0) (fun _ => 0) (fun _ _ => false)
  obtain ⟨wA, hwA⟩ : ∃ wA : World, wA = w1.alloc (.cells (madeCells #[.slice none 0 0] n) 54) := ⟨_, rfl⟩
  have hgA : Gr w1 wA none := by rw [hwA]; exact (Gr.refl _ _).alloc _
  have HSZA := Lib.hid (show wA.heap.size = w1.heap.size + 1 by rw [hwA]; simp)
  rw [← hwA] at hO0 ⊢
  have HOA := Lib.hid hO0
  have HGA := Lib.hid hgA
  clear hwA hO0 hgA
  go_upto_region 4 with fail
  have hS0 := Row.e (Row.new wA n)
  obtain ⟨wB, hwB⟩ : ∃ wB : World, wB = wA.alloc (.cells (madeCells #[.bool false] n) 4) := ⟨_, rfl⟩
  have hgB : Gr wA wB none := by rw [hwB]; exact (Gr.refl _ _).alloc _
  have HSZB := Lib.hid (show wB.heap.size = wA.heap.size + 1 by rw [hwB]; simp)
  have hlt0 : w1.heap.size < wB.heap.size := by have := HSZA.out; have := HSZB.out; omega
  rw [← hwB] at hS0 ⊢
  have HSB := Lib.hid hS0
  have HGB := Lib.hid (HGA.out.trans0 hgB)
  have HOB := Lib.hid (HOA.out.gr0 hgB)
  replace q0 := HGB.out.cell HQ0.out (by simp)
  clear hwB hS0 hgB
  have o0 : ∀ o, (wB.alloc o).cell? ⟨w1.heap.size, 0, none⟩ = some (.slice none 0 0) := fun o => (HOB.out.gr0 ((Gr.refl _ _).alloc o)).cell hpos
  have f0 : ∀ o, (wB.alloc o).frozen? ⟨w1.heap.size, 0, none⟩ = false := fun o => (HOB.out.gr0 ((Gr.refl _ _).alloc o)).free 0
  go_upto_region 5 with fail
  have hR0 := Row.e (Row.new wB N)
  obtain ⟨wb, hwb⟩ : ∃ wb : World, wb = wB.alloc (.cells (madeCells #[.bool false] N) 4) := ⟨_, rfl⟩
  have hgb : Gr wB wb none := by rw [hwb]; exact (Gr.refl _ _).alloc _
  have HSZb := Lib.hid (show wb.heap.size = wB.heap.size + 1 by rw [hwb]; simp)
  rw [← World.setCell_alloc_past _ _ _ _ hlt0]
  rw [← hwb] at hR0 ⊢
  obtain ⟨wC, hwC⟩ : ∃ wC : World, wC = wb.setCell ⟨w1.heap.size, 0, none⟩ (.slice (some ⟨wB.heap.size, 0, none⟩) N N) := ⟨_, rfl⟩
  have hgC : Gr wb wC (some w1.heap.size) := by rw [hwC]; exact own_set _ _ _ _
  have HSZC := Lib.hid (show wC.heap.size = wb.heap.size by rw [hwC]; simp)
  have HOC := Lib.hid (show OutE wC w1.heap.size n N (updSeen (fun _ => false) 0) (updE (fun _ => 0) 0 wB.heap.size) (updE (fun _ => 0) 0 N) (updF (fun _ _ => false) 0 (fun _ => false)) by
    rw [hwC]; exact (HOB.out.gr0 hgb).set hR0)
  have HSC := Lib.hid ((HSB.out.gr0 hgb).gr hgC (by simp; have := HSZA.out; omega))
  have HGC := Lib.hid (show Gr w1 wC none by rw [hwC]; exact (HGB.out.trans0 hgb).setNew (Nat.le_refl _) _)
  rw [← hwC]
  clear hwC hgC hR0 hwb hgb o0 f0 q0
  have s0 := HSC.out.cell hpos
  have sf := HSC.out.free 0
  go_upto_region 6 with fail
  obtain ⟨wD, hwD⟩ : ∃ wD : World, wD = wC.setCell ⟨wA.heap.size, 0, none⟩ (.bool true) := ⟨_, rfl⟩
  have hgD : Gr wC wD (some wA.heap.size) := by rw [hwD]; exact own_set _ _ _ _
  have HSZD := Lib.hid (show wD.heap.size = wC.heap.size by rw [hwD]; simp)
  have HSZ := Lib.hid (show w1.heap.size < wA.heap.size ∧ wA.heap.size < wB.heap.size ∧ wB.heap.size < wb.heap.size ∧ wb.heap.size = wD.heap.size by have := HSZA.out; have := HSZB.out; have := HSZb.out; have := HSZC.out; have := HSZD.out; omega)
  have HSD := Lib.hid (show RowE wD wA.heap.size n n (updSeen (fun _ => false) 0) by rw [hwD]; exact (HSC.out.set 0 true).congr fun j _ => by unfold updSeen; rfl)
  have HOD := Lib.hid (HOC.out.gr hgD (by simp; have := HSZA.out; omega) (fun i hi hs => by
    obtain rfl := seen0 hs
    simp only [updE, if_true]
    intro e; simp at e; have := HSZB.out; omega))
  have HGD := Lib.hid (show Gr w1 wD none by rw [hwD]; exact HGC.out.setNew (by simp; have := HSZA.out; omega) _)
  rw [← hwD]
  clear hwD hgD s0 sf
  go_upto_region 7 with fail
  have hQ := que_new wD wb.heap.size (by have := HSZ.out; omega) 0
  obtain ⟨wE, hwE⟩ : ∃ wE : World, wE = wD.alloc (.cells #[.int .i64 ((0 : Nat) : Int)] 3) := ⟨_, rfl⟩
  have hgE : Gr wD wE none := by rw [hwE]; exact (Gr.refl _ _).alloc _
  have hwE' : wD.alloc (.cells #[.int .i64 0] 3) = wE := hwE.symm
  rw [← hwE] at hQ
  rw [hwE']
  have HQE := Lib.hid hQ
  have HSE := Lib.hid (HSD.out.gr0 hgE)
  have HOE := Lib.hid (HOD.out.gr0 hgE)
  have HGE := Lib.hid (HGD.out.trans0 hgE)
  have HFA := Lib.hid (fwA_mono all p.types L)
  have HW0 := Lib.hid (show WlOk L (fwI all N) (fwA all p.types L) (xT all N (updSeen (fun _ => false) 0) (updF (fun _ _ => false) 0 (fun _ => false))) [0] from xT_start all N (by omega))
  have HBE := Lib.hid (show ∀ i, i < n → updSeen (fun _ => false) 0 i = true → updE (fun _ => 0) 0 wB.heap.size i ≠ wD.heap.size from fun i hi hs => by
    obtain rfl := seen0 hs
    simp only [updE, if_true]; have := HSZ.out; omega)
  clear hwE hwE' hgE hQ hmkO hmkB hmkN
  go_loopg [8] (leftW (boxO n N) (xT all N (updSeen (fun _ => false) 0) (updF (fun _ _ => false) 0 (fun _ => false))) [0]) (fun gh v wr => ∃ (W : List Nat) (m gq off cap : Nat) (s : Nat → Bool) (B C : Nat → Nat) (G : Nat → Nat → Bool), gh = leftW (boxO n N) (xT all N s G) W ∧ gh ≤ 500 ∧ v = .slice (some ⟨gq, off, none⟩) m cap ∧ W.length = m ∧ WlOk L (fwI all N) (fwA all p.types L) (xT all N s G) W ∧ Que wr wb.heap.size gq off m cap (zs W) ∧ OutE wr w1.heap.size n N s B C G ∧ RowE wr wA.heap.size n n s ∧ (∀ i, i < n → s i = true → B i ≠ gq) ∧ (∀ i, i < n → s i = true → wB.heap.size ≤ B i) ∧ Gr w1 wr none)
  case atStart => exact ⟨[0], 1, wD.heap.size, 0, 1, _, _, _, _, rfl, leftW_start _ _ hml hpl, rfl, rfl, HW0.out, HQE.out, HOE.out, HSE.out, HBE.out, (fun i hi hs => by
    obtain rfl := seen0 hs
    simp only [updE, if_true]; exact Nat.le_refl _), HGE.out⟩
  case round =>
    rename World => wr0
    obtain ⟨W, m, gq, off, cap, s, B, C, G, rfl, hgh5, rfl, hm, hW, hQ, hO, hS, hBq, hBlo, hg⟩ := hrel
    have HW := Lib.hid hW
    have HQ := Lib.hid hQ
    have HO := Lib.hid hO
    have HS := Lib.hid hS
    have HBQ := Lib.hid hBq
    have HBL := Lib.hid hBlo
    have HG := Lib.hid hg
    have HG5 := Lib.hid hgh5
    have hWm : W.length ≤ 500 := Nat.le_trans (by unfold leftW; omega) hgh5
    clear hW hQ hO hS hBq hBlo hgh5
    rcases W with _ | ⟨a, W0⟩
    · obtain rfl : m = 0 := by simpa using hm.symm
      have hnp : (pts p).length = n := by rw [← HM.out]; exact HN.out
      have HNP := Lib.hid hnp
      have HD := Lib.hid (show WlOk (pts p) (fwI all p.types.length) (fwA all p.types (pts p)) (xT all p.types.length s G) [] by rw [← HM.out, HNN.out]; exact HW.out)
      clear hnp
      go_wp2_with fail
      go_ret
      unfold TabledE
      rw [HNP.out]
      refine ⟨_, rfl, fun i hi => ?_, HG1.out.trans0 HG.out⟩
      obtain ⟨hs, hG⟩ := xT_done HD.out (i := i) (by rw [HNP.out]; exact hi)
      refine ⟨B i, C i, ?_, ?_⟩
      · have := HO.out.cell hi
        rw [hs, if_pos rfl] at this
        rw [HNN.out]; exact this
      · rw [HNN.out]
        exact (HO.out.row hi hs).congr (fun v hv => by rw [hG v (by rw [HNN.out]; exact hv)]; rfl)
    · obtain ⟨m', hm'⟩ : ∃ m', W0.length = m' := ⟨_, rfl⟩
      obtain rfl : m = m' + 1 := by simp at hm; omega
      have hmb : m' ≤ 500 := by simp at hWm; omega
      have haa := HW.out.2.2.1 a (by simp)
      have haL : a < L.length := haa.1
      have hsa : s a = true := haa.2
      have han : a < n := by rw [← HN.out]; exact haL
      have hQl : wr0.cell? ⟨gq, off, none⟩ = some (.int .i64 (a : Int)) := by
        have := HQ.out.cell (j := 0) (by simp [zs])
        simpa [zs] using this
      have hcap : m' + 1 ≤ cap := HQ.out.2.2.2.1
      have HQP := Lib.hid (show Que wr0 wb.heap.size gq (off + 1) m' (cap - 1) (zs W0) by
        have hz : zs (a :: W0) = (a : Int) :: zs W0 := rfl
        have := HQ.out
        rw [hz] at this
        have := this.tail
        rw [zs_length, hm'] at this
        exact this)
      have HM' := Lib.hid hm'
      clear haa hm hm' hWm hg
      go_upto_region 9 with fail
      go_cut [8] (fun s8 wx => ∃ off1, s8 = .slice (some ⟨gq, off1, none⟩) m' (cap - 1) ∧ wr0 = wx ∧ Que wr0 wb.heap.size gq off1 m' (cap - 1) (zs W0))
      case first =>
        by_cases hc1 : cap = 1
        · subst hc1
          have HQ0' := Lib.hid (show Que wr0 wb.heap.size gq off m' (1 - 1) (zs W0) from ⟨HQP.out.1, HQP.out.2.1, HQP.out.2.2.1, HQP.out.2.2.2.1, fun j hj => by omega, fun j u hu => by
            have := (List.getElem?_eq_some_iff.1 hu).1
            have := HQP.out.2.2.1
            rw [ints_length] at *
            omega⟩)
          go_wp2_with fail
          go_meet
          have hm0 : m' = 0 := by omega
          subst hm0
          exact ⟨off, rfl, rfl, HQ0'.out⟩
        · go_wp2_with fail
          go_meet
          exact ⟨off + 1, rfl, rfl, HQP.out⟩
      case rest =>
      obtain ⟨off1, rfl, rfl, hQ1⟩ := hcut
      have HQ1 := Lib.hid hQ1
      clear hQ1 HQ HQP hQl
      obtain ⟨b, po, rfl, an, cn, e0, e1, e2, e3, e4, hin, -⟩ := HR.out a haL
      obtain ⟨q, eq⟩ : ∃ q, L[a] = q := ⟨_, rfl⟩
      have hnq : nextOf L a = q.next := by rw [nextOf_get haL, eq]
      rw [eq] at e0 e1 e2 e3 e4 hin
      have d0 := HG.out.cell e0 (by simp)
      have d1 := HG.out.cell e1 (by simp)
      have d2 := HG.out.cell e2 (by simp)
      have d3 := HG.out.cell e3 (by simp)
      have hpa : ptAt L a = q := (ptAt_get haL).trans eq
      have HPA := Lib.hid hpa
      have HNQ := Lib.hid hnq
      obtain ⟨nn, hnn⟩ : ∃ nn, q.next.length = nn := ⟨_, rfl⟩
      rw [hnn] at e4
      have d4 := HG.out.cell e4 (by simp)
      have HD4 := Lib.hid e4
      have HNNX := Lib.hid hnn
      have hnn2 : nn ≤ 2 := by have := (HNX.out a haL).1; rw [hnq, hnn] at this; exact this
      have HNL := Lib.hid (show ∀ k ∈ q.next, k < n by have := (HNX.out a haL).2; rw [hnq, HN.out] at this; exact this)
      have q0 := HG.out.cell HQ0.out (by simp)
      have h0 := HO.out.cell han
      rw [hsa, if_pos rfl] at h0
      have HST := Lib.hid (show -1 ≤ setOf q.op q.x ∧ setOf q.op q.x < p.types.length by
        have haP : a < (pts p).length := by rw [← HM.out]; exact haL
        have hqp : ptAt (pts p) a = q := by rw [← HM.out]; exact hpa
        have := set_in HV.out haP
        rw [← ptAt_get haP, hqp] at this; exact this)
      have HIN := Lib.hid hin
      clear eq hnq hpa hnn hin e0 e1 e2 e3 e4
      go_upto_region 10 with fail
      go_cut [10] (fun sv wx => ∃ ga ca, sv = .slice (some ⟨ga, 0, none⟩) N ca ∧ RowE wx ga N ca (aftE p.types q.op q.x q.y (G a)) ∧ wr0.heap.size ≤ ga ∧ Gr wr0 wx none)
      case first =>
--<RA
        refine wp_region_held_drew (S := fun w' => Gr wr0 w' none) (by kernel_rfl) ((Gr.refl _ _).drew) (fun hHeld => ?_)
        refine wpAnyH_take (i := 0) (v := ?_) rfl (by kernel_rfl) (by kernel_rfl) (by kernel_rfl) (fun _ _ _ h => h) (Or.inl ⟨by rfl, ?_⟩) hHeld ?_
        rotate_left
        focus (intro wq hq; clear hq; go_simp; try with_reducible rfl)
        simp only [Act.put, List.getElem_toArray, List.getElem_cons_zero, List.setIfInBounds_toArray, List.set_cons_zero, List.set_cons_succ]
        refine wpAnyH_take (i := 1) (v := ?_) rfl (by kernel_rfl) (by kernel_rfl) (by kernel_rfl) (fun _ _ _ h => h) (Or.inl ⟨by rfl, ?_⟩) hHeld ?_
        rotate_left
        focus (intro wq hq; have k0 := hq.cell q0 (by simp); go_simp; try with_reducible rfl)
        simp only [Act.put, List.getElem_toArray, List.getElem_cons_succ, List.getElem_cons_zero, List.setIfInBounds_toArray, List.set_cons_zero, List.set_cons_succ]
        refine wpAnyH_take (i := 2) (v := ?_) rfl (by kernel_rfl) (by kernel_rfl) (by kernel_rfl) (fun _ _ _ h => h) (Or.inl ⟨by rfl, ?_⟩) hHeld ?_
        rotate_left
        focus (intro wq hq; clear hq; go_simp; try with_reducible rfl)
        simp only [Act.put, List.getElem_toArray, List.getElem_cons_succ, List.getElem_cons_zero, List.setIfInBounds_toArray, List.set_cons_zero, List.set_cons_succ]
        refine wpAnyH_take (i := 3) (v := ?_) rfl (by kernel_rfl) (by kernel_rfl) (by kernel_rfl) (fun _ _ _ h => h) (Or.inl ⟨by rfl, ?_⟩) hHeld ?_
        rotate_left
        focus (intro wq hq; clear hq; go_simp; try with_reducible rfl)
        simp only [Act.put, List.getElem_toArray, List.getElem_cons_succ, List.getElem_cons_zero, List.setIfInBounds_toArray, List.set_cons_zero, List.set_cons_succ]
        refine wpAnyH_take (i := 4) (v := ?_) rfl (by kernel_rfl) (by kernel_rfl) (by kernel_rfl) (fun _ _ _ h => h) (Or.inl ⟨by rfl, ?_⟩) hHeld ?_
        rotate_left
        focus (intro wq hq; clear hq; go_simp; try with_reducible rfl)
        simp only [Act.put, List.getElem_toArray, List.getElem_cons_succ, List.getElem_cons_zero, List.setIfInBounds_toArray, List.set_cons_zero, List.set_cons_succ]
        refine wpAnyH_take (i := 5) (v := ?_) rfl (by kernel_rfl) (by kernel_rfl) (by kernel_rfl) (fun _ _ _ h => h) (Or.inl ⟨by rfl, ?_⟩) hHeld ?_
        rotate_left
        focus (intro wq hq; have k0 := hq.cell d0 (by simp); have k1 := hq.cell d1 (by simp); have k2 := hq.cell d2 (by simp); have k3 := hq.cell d3 (by simp); have k4 := hq.cell d4 (by simp); go_simp; try with_reducible rfl)
        simp only [Act.put, List.getElem_toArray, List.getElem_cons_succ, List.getElem_cons_zero, List.setIfInBounds_toArray, List.set_cons_zero, List.set_cons_succ]
        refine wpAnyH_take (i := 6) (v := ?_) rfl (by kernel_rfl) (by kernel_rfl) (by kernel_rfl) (fun _ _ _ h => h) (Or.inl ⟨by rfl, ?_⟩) hHeld ?_
        rotate_left
        focus (intro wq hq; clear hq; go_simp; try with_reducible rfl)
        simp only [Act.put, List.getElem_toArray, List.getElem_cons_succ, List.getElem_cons_zero, List.setIfInBounds_toArray, List.set_cons_zero, List.set_cons_succ]
        refine wpAnyH_take (i := 7) (v := ?_) rfl (by kernel_rfl) (by kernel_rfl) (by kernel_rfl) (fun _ _ _ h => h) (Or.inl ⟨by rfl, ?_⟩) hHeld ?_
        rotate_left
        focus (intro wq hq; clear hq; go_simp; try with_reducible rfl)
        simp only [Act.put, List.getElem_toArray, List.getElem_cons_succ, List.getElem_cons_zero, List.setIfInBounds_toArray, List.set_cons_zero, List.set_cons_succ]
        refine wpAnyH_take (i := 8) (v := ?_) rfl (by kernel_rfl) (by kernel_rfl) (by kernel_rfl) (fun _ _ _ h => h) (Or.inl ⟨by rfl, ?_⟩) hHeld ?_
        rotate_left
        focus (intro wq hq; clear hq; go_simp; try with_reducible rfl)
        simp only [Act.put, List.getElem_toArray, List.getElem_cons_succ, List.getElem_cons_zero, List.setIfInBounds_toArray, List.set_cons_zero, List.set_cons_succ]
        refine wpAnyH_take (i := 9) (v := ?_) rfl (by kernel_rfl) (by kernel_rfl) (by kernel_rfl) (fun _ _ _ h => h) (Or.inl ⟨by rfl, ?_⟩) hHeld ?_
        rotate_left
        focus (intro wq hq; have k0 := hq.cell h0 (by simp); go_simp; try with_reducible rfl)
        simp only [Act.put, List.getElem_toArray, List.getElem_cons_succ, List.getElem_cons_zero, List.setIfInBounds_toArray, List.set_cons_zero, List.set_cons_succ]
        refine wpAnyH_ready (rs := [10]) (by kernel_rfl) (by simp) ?_
        refine AllReadyH.cons rfl (fun K hK => ?_) AllReadyH.nil
        go_simp
        have hA := l3After_any p.types at' ct q.op q.x q.y q.n (.slice an nn cn) (B a) (C a) (G a)
        rw [HNN.out] at hA
        refine (hA _ (HT0.out.gr0 (HG1.out.trans0 (HG.out.trans0 hHeld))) hpl ((HO.out.row han hsa).gr0 hHeld) (by rw [← HNN.out]; exact HST.out)).mono ?_
        clear hA
        have HZ := Lib.hid hHeld.size
        rintro e w5 ⟨ga, ca, rfl, hRa, hga, hg5⟩
        try dsimp only
        refine hK.out _ _ (hHeld.trans0 hg5) (fun hHeld => ?_)
        clear hK K
        try simp only [Act.put, List.getElem_toArray, List.getElem_cons_succ, List.getElem_cons_zero, List.setIfInBounds_toArray, List.set_cons_zero, List.set_cons_succ]
        refine wpAnyH_take (i := 11) (v := ?_) rfl (by kernel_rfl) (by kernel_rfl) (by kernel_rfl) (fun _ _ _ h => h) (Or.inl ⟨by rfl, ?_⟩) hHeld ?_
        rotate_left
        focus (intro wq hq; clear hq; go_simp; try with_reducible rfl)
        simp only [Act.put, List.getElem_toArray, List.getElem_cons_succ, List.getElem_cons_zero, List.setIfInBounds_toArray, List.set_cons_zero, List.set_cons_succ]
        refine wpAnyH_done (by kernel_rfl) ?_ _
        go_wp2_with fail
        go_meet
        exact ⟨ga, ca, rfl, hRa, Nat.le_trans HZ.out hga, hHeld⟩
--RA>
      case rest =>
      rename World => wx
      obtain ⟨ga, ca, rfl, hRa, hga, hgx⟩ := hcut
      have HRA := Lib.hid (show RowE wx ga N ca (aftR p.types L a (G a)) from hRa.congr fun v _ => by unfold aftE aftR stL tkL; rw [HPA.out])
      have HGX := Lib.hid (HG.out.trans0 hgx)
      have HOX := Lib.hid (HO.out.gr0 hgx)
      have HSX := Lib.hid (HS.out.gr0 hgx)
      have HQX := Lib.hid (HQ1.out.gr hgx (by simp))
      have HGA := Lib.hid (show gq < ga ∧ wB.heap.size ≤ ga ∧ gq < wx.heap.size by
        have h1 := HQ1.out.2.1
        have h2 := (HSZ.out)
        have h3 := HQ1.out.1
        have h4 := hgx.size
        omega)
      have HI0 := Lib.hid (show WlI L (fwI all N) (fwA all p.types L) (xT all N s G) W0 a (rT all N (aftR p.types L a (G a))) 0 from HW.out.enter HFA.out (fun b => by
        have h1 := aftR_row HV.out all (i := a) (by rw [← HM.out]; exact haL) (s := s) (G := G) hsa b
        rw [HNN.out, ← HM.out] at h1
        exact h1))
      obtain ⟨gl, hgl⟩ : ∃ gl, leftW (boxO n N) (xT all N s G) W0 = gl := ⟨_, rfl⟩
      have HGL := Lib.hid (show gl < leftW (boxO n N) (xT all N s G) (a :: W0) by rw [← hgl]; exact leftW_pop _ _ _ _)
      have HGLE := Lib.hid (show leftW (boxO n N) (xT all N s G) W0 ≤ gl by rw [hgl]; exact Nat.le_refl _)
      have hgl5 : gl ≤ 500 := by have := HGL.out; have := HG5.out; omega
      clear hRa hga hgx hgl d0 d1 d2 d3 d4 h0 q0
      go_wp2_with fail
      go_loopw [8, 11] (fun v i wr => ∃ (W : List Nat) (m gq off cap : Nat) (s : Nat → Bool) (B C : Nat → Nat) (G2 : Nat → Nat → Bool) (j : Nat), j ≤ nn ∧ v = .slice (some ⟨gq, off, none⟩) m cap ∧ i = .int .i64 j ∧ W.length = m ∧ leftW (boxO n N) (xT all N s G2) W ≤ gl ∧ WlI L (fwI all N) (fwA all p.types L) (xT all N s G2) W a (rT all N (aftR p.types L a (G a))) j ∧ Que wr wb.heap.size gq off m cap (zs W) ∧ OutE wr w1.heap.size n N s B C G2 ∧ RowE wr wA.heap.size n n s ∧ RowE wr ga N ca (aftR p.types L a (G a)) ∧ gq ≠ ga ∧ (∀ i, i < n → s i = true → B i ≠ gq) ∧ (∀ i, i < n → s i = true → wB.heap.size ≤ B i) ∧ Gr w1 wr none) (fun _ i _ => nn - (intOf i).toNat)
      case atStart => exact ⟨W0, m', gq, off1, cap - 1, s, B, C, G, 0, Nat.zero_le _, rfl, rfl, HM'.out, HGLE.out, HI0.out, HQX.out, HOX.out, HSX.out, HRA.out, by have := HGA.out; omega, HBQ.out, HBL.out, HGX.out⟩
      case round =>
        obtain ⟨W, m, gq, off, cap, s, B, C, G2, j, hj, rfl, rfl, hm, hle, hI, hQ, hO, hS, hRa, hqa, hBq, hBlo, hg⟩ := hrel
        have HI := Lib.hid hI
        have HQ := Lib.hid hQ
        have HO := Lib.hid hO
        have HS := Lib.hid hS
        have HRA := Lib.hid hRa
        have HBQ := Lib.hid hBq
        have HBL := Lib.hid hBlo
        have HG := Lib.hid hg
        have HLE := Lib.hid hle
        have HQA := Lib.hid hqa
        have HMM := Lib.hid hm
        have hm5 : m ≤ 500 := by
          rw [← hm]
          exact Nat.le_trans (Nat.le_trans (by unfold leftW; omega) hle) hgl5
        clear hI hQ hO hS hRa hBq hBlo hle hqa hm
        by_cases hjn : j < nn
        · have hjq : j < q.next.length := by rw [HNNX.out]; exact hjn
          obtain ⟨b6, o6, rfl, -, c6⟩ := (HIN.out.gr0 hg).at (i := j) (by rw [zs_length]; exact hjq)
          obtain ⟨kk, hkk⟩ : ∃ kk, q.next[j] = kk := ⟨_, rfl⟩
          have hzk : (zs q.next)[j]'(by rw [zs_length]; exact hjq) = (kk : Int) := by rw [← hkk]; simp [zs]
          rw [hzk] at c6
          have hjN : j < (nextOf L a).length := by rw [HNQ.out]; exact hjq
          have HK := Lib.hid (show (nextOf L a)[j] = kk by simp only [HNQ.out]; exact hkk)
          have hkn : kk < n := HNL.out kk (hkk ▸ List.getElem_mem hjq)
          have d4 := hg.cell HD4.out (by simp)
          have o0 := HO.out.cell hkn
          have s0 := HS.out.cell hkn
          obtain ⟨sk, hsk⟩ : ∃ sk, s kk = sk := ⟨_, rfl⟩
          rw [hsk] at o0 s0
          have HSK := Lib.hid hsk
          obtain ⟨F, hF⟩ : ∃ F, aftR p.types L a (G a) = F := ⟨_, rfl⟩
          have HFF := Lib.hid hF
          rw [hF] at HRA HI
          clear hkk hzk hg hF
          cases sk
          case' false =>
            simp only [Bool.false_eq_true, if_false] at o0
            go_wp2_with fail
            refine (l3JoinNew_any all N ga ca F _ HRA.out hpl).mono ?_
            rintro e w3 ⟨gn, cn3, rfl, hRn, hgn, hg3⟩
            obtain ⟨H, hH⟩ : ∃ H, F = H := ⟨_, rfl⟩
            have HRN := Lib.hid (show RowE w3 gn N cn3 H by rw [← hH]; exact hRn)
            have HXT := Lib.hid (show xT all N (updSeen s kk) (updF G2 kk H) = mrg (xT all N s G2) kk (rT all N F) by rw [← hH]; exact xT_new all N hsk)
            have HLS := Lib.hid (show ∃ bb, (kk, bb) ∈ boxO n N ∧ rT all N F bb = true ∧ xT all N s G2 kk bb = false from ⟨none, boxO_none hkn, rfl, hsk⟩)
            have HGN := Lib.hid hgn
            have HG3 := Lib.hid hg3
            have s3 := hg3.cell s0 (by simp)
            have sf3 : w3.frozen? ⟨wA.heap.size, kk, none⟩ = false := (HS.out.gr0 hg3).free kk
            clear hH hRn hgn hg3 hsk s0 o0 d4 c6
            go_upto_region 17 with fail
          case' true =>
            simp only [if_true] at o0
            go_wp2_with fail
            refine (l3Join_any all N (B kk) (C kk) ga ca (G2 kk) F _ (HO.out.row hkn HSK.out) HRA.out hpl).mono ?_
            rintro e w2 ⟨gn, cn3, rfl, hRn, hgn, hg2⟩
            have HR2 := Lib.hid hRn
            have HGN := Lib.hid hgn
            have HG2 := Lib.hid hg2
            replace o0 := hg2.cell o0 (by simp)
            replace s0 := hg2.cell s0 (by simp)
            clear hRn hgn hg2 d4 c6
            go_wp2_with fail
            refine (l3Equal_any N (B kk) (C kk) gn cn3 (G2 kk) (joinR all (G2 kk) F) _ ((HO.out.row hkn HSK.out).gr0 HG2.out) HR2.out hpl).mono ?_
            rintro e w3 ⟨rfl, hg3⟩
            have HG3 := Lib.hid (HG2.out.trans0 hg3)
            have s3 := hg3.cell s0 (by simp)
            have sf3 : w3.frozen? ⟨wA.heap.size, kk, none⟩ = false := (HS.out.gr0 HG3.out).free kk
            obtain ⟨sm, hsm⟩ : ∃ sm, sameR N (G2 kk) (joinR all (G2 kk) F) = sm := ⟨_, rfl⟩
            rw [hsm]
            have HSM := Lib.hid hsm
            have HR3 := Lib.hid (HR2.out.gr0 hg3)
            clear hg3 o0 s0 hsk hsm
            cases sm
            case true =>
              go_wp2_with fail
              go_roundw
              case rel => exact ⟨W, m, gq, off, cap, s, B, C, G2, j + 1, by omega, rfl, by go_num, HMM.out, HLE.out, by rw [HFF.out]; exact HI.out.same hjN (fun b hb => by rw [HK.out]; exact xT_same HSK.out (sameR_iff.1 HSM.out) b hb), HQ.out.gr HG3.out (by simp), HO.out.gr0 HG3.out, HS.out.gr0 HG3.out, by rw [HFF.out]; exact HRA.out.gr0 HG3.out, HQA.out, HBQ.out, HBL.out, HG.out.trans0 HG3.out⟩
              case measure => simp [intOf]; omega
            obtain ⟨H, hH⟩ : ∃ H, joinR all (G2 kk) F = H := ⟨_, rfl⟩
            have HRN := Lib.hid (show RowE w3 gn N cn3 H by rw [← hH]; exact HR3.out)
            have HXT := Lib.hid (show xT all N (updSeen s kk) (updF G2 kk H) = mrg (xT all N s G2) kk (rT all N F) by rw [← hH]; exact xT_join all N HSK.out)
            have HLS := Lib.hid (show ∃ bb, (kk, bb) ∈ boxO n N ∧ rT all N F bb = true ∧ xT all N s G2 kk bb = false by
              have hne : ¬ ∀ v, v < N → G2 kk v = joinR all (G2 kk) F v := fun h => by have := sameR_iff.2 h; rw [HSM.out] at this; cases this
              obtain ⟨v, hv⟩ := Classical.not_forall.1 hne
              obtain ⟨hv1, hv2⟩ := Classical.not_imp.1 hv
              have := xT_less (s := s) hv1 hv2
              exact ⟨some v, boxO_some hkn hv1, this.1, this.2⟩)
            clear hH
            go_upto_region 17 with fail
          all_goals
            go_upto_region 18 with fail
            have hlt1 := HSZ.out
            have hqb := HQ.out.1
            have hql := HQ.out.2.1
            have hgnl := HGN.out
            obtain ⟨w5, hw5⟩ : ∃ w5 : World, w5 = w3.setCell ⟨wA.heap.size, kk, none⟩ (.bool true) := ⟨_, rfl⟩
            have hg35 : Gr w3 w5 (some wA.heap.size) := by rw [hw5]; exact own_set _ _ _ _
            have HS5 := Lib.hid (show RowE w5 wA.heap.size n n (updSeen s kk) by rw [hw5]; exact ((HS.out.gr0 HG3.out).set kk true).congr fun j _ => by unfold updSeen; rfl)
            have HO5 := Lib.hid (show OutE w5 w1.heap.size n N s B C G2 from (HO.out.gr0 HG3.out).gr hg35 (by simp; omega) (fun i hi hs => by have := HBL.out i hi hs; simp; omega))
            have HQ5 := Lib.hid (show Que w5 wb.heap.size gq off m cap (zs W) from (HQ.out.gr HG3.out (by simp)).gr hg35 (by simp; omega))
            have HRN5 := Lib.hid (show RowE w5 gn N cn3 H from HRN.out.gr hg35 (by simp; omega))
            have HRA5 := Lib.hid (show RowE w5 ga N ca F from (HRA.out.gr0 HG3.out).gr hg35 (by have := HGA.out; simp; omega))
            have HG5 := Lib.hid (show Gr w1 w5 none by rw [hw5]; exact (HG.out.trans0 HG3.out).setNew (by show w1.heap.size ≤ wA.heap.size; omega) _)
            have hsz5 : w5.heap.size = w3.heap.size := by rw [hw5]; simp
            have HSZ5 := Lib.hid hsz5
            rw [← hw5]
            have o5 := HO5.out.cell hkn
            have of5 := HO5.out.free kk
            obtain ⟨ov, hov⟩ : ∃ ov, (if s kk = true then Value.slice (some ⟨B kk, 0, none⟩) N (C kk) else .slice none 0 0) = ov := ⟨_, rfl⟩
            rw [hov] at o5
            clear hw5 hg35 hsz5 s3 sf3 hov
            go_upto_region 19 with fail
            obtain ⟨w6, hw6⟩ : ∃ w6 : World, w6 = w5.setCell ⟨w1.heap.size, kk, none⟩ (.slice (some ⟨gn, 0, none⟩) N cn3) := ⟨_, rfl⟩
            have hg56 : Gr w5 w6 (some w1.heap.size) := by rw [hw6]; exact own_set _ _ _ _
            have HO6 := Lib.hid (show OutE w6 w1.heap.size n N (updSeen s kk) (updE B kk gn) (updE C kk cn3) (updF G2 kk H) by rw [hw6]; exact HO5.out.set HRN5.out)
            have HS6 := Lib.hid (show RowE w6 wA.heap.size n n (updSeen s kk) from HS5.out.gr hg56 (by simp; omega))
            have HQ6 := Lib.hid (show Que w6 wb.heap.size gq off m cap (zs W) from HQ5.out.gr hg56 (by simp; omega))
            have HRA6 := Lib.hid (show RowE w6 ga N ca F from HRA5.out.gr hg56 (by have := HGA.out; simp; omega))
            have HG6 := Lib.hid (show Gr w1 w6 none by rw [hw6]; exact HG5.out.setNew (Nat.le_refl _) _)
            rw [← hw6]
            have HLT := Lib.hid (show w1.heap.size < wA.heap.size ∧ wA.heap.size < wB.heap.size ∧ wB.heap.size < wb.heap.size ∧ wb.heap.size ≤ gq ∧ gq < gn ∧ gq ≠ ga from ⟨hlt1.1, hlt1.2.1, hlt1.2.2.1, hqb, by omega, HQA.out⟩)
            clear hw6 hg56 o5 of5 hlt1 hqb hql hgnl
            go_wp2_with (at_builtin; refine app_q2 (w6.alloc (.cells #[.int .i64 (kk : Int)] 3)) rfl (.tmp 96) (.tmp 98) rfl wb.heap.size gq off m cap (zs W) rfl (HQ6.out.gr ((Gr.refl _ none).alloc _) (by simp)) (some ⟨w6.heap.size, 0, none⟩) 1 [(kk : Int)] rfl (inAt_1 _ _) (by simp; omega) ?_; rintro gq' off' cap' w7 hQ7 hor hg7)
            have hg67 : Gr w6 w7 (some gq) := (((Gr.refl w6 none).alloc _).weaken).trans hg7 (fun _ h => .inl h)
            have hl := HLT.out
            have HSEP := Lib.hid (show ∀ i, i < n → updSeen s kk i = true → updE B kk gn i ≠ gq from fun i hi hs => by
              by_cases e : i = kk
              · subst e; simp only [updE, if_true]; omega
              · simp only [updE, if_neg e]
                exact HBQ.out i hi (by simpa [updSeen, e] using hs))
            go_roundw
            case rel =>
              obtain ⟨bb, hb1, hb2, hb3⟩ := HLS.out
              refine ⟨W ++ [kk], m + 1, gq', off', cap', updSeen s kk, updE B kk gn, updE C kk cn3, updF G2 kk H, j + 1, by omega, rfl, by go_num, by rw [List.length_append, HMM.out]; rfl, ?_, ?_, ?_, HO6.out.gr hg67 (by simp; omega) (fun i hi hs => by have := HSEP.out i hi hs; simp; omega), HS6.out.gr hg67 (by simp; omega), ?_, ?_, fun i hi hs => ?_, fun i hi hs => ?_, ?_⟩
              · rw [HXT.out]; exact Nat.le_trans (leftW_push hb1 hb2 hb3 kk) HLE.out
              · have := HI.out.change HFA.out HNX.out haL hjN rfl
                rw [HK.out] at this
                rw [HXT.out, HFF.out]; exact this
              · rw [zs_app]; exact hQ7
              · rw [HFF.out]; exact HRA6.out.gr hg67 (by simp; omega)
              · rcases hor with rfl | h
                · omega
                · have := HRA6.out.lt; simp at h; omega
              · rcases hor with rfl | h
                · exact HSEP.out i hi hs
                · have := (HO6.out.row hi hs).lt; simp at h; omega
              · by_cases e : i = kk
                · subst e; simp only [updE, if_true]; omega
                · simp only [updE, if_neg e]
                  exact HBL.out i hi (by simpa [updSeen, e] using hs)
              · exact HG6.out.trans hg67 (fun r e => .inr (by cases e; omega))
            case measure => simp [intOf]; omega
        · obtain rfl : j = nn := by omega
          have d4 := hg.cell HD4.out (by simp)
          go_wp2_with fail
          go_roundg (leftW (boxO n N) (xT all N s G2) W)
          case measure => exact Nat.lt_of_le_of_lt HLE.out HGL.out
          case rel => exact ⟨W, m, gq, off, cap, s, B, C, G2, rfl, Nat.le_trans HLE.out hgl5, rfl, HMM.out, HI.out.exit (by rw [HNQ.out, HNNX.out]; exact Nat.le_refl _), HQ.out, HO.out, HS.out, HBQ.out, HBL.out, HG.out⟩
end Go.Proofs.Ytadlnjglpigjmaa
