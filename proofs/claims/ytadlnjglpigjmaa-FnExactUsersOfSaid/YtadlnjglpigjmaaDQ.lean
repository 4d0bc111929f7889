/- Walk of l10Flow of the reference, for whatever is followed. -/
/- Walk of l10Flow of the reference, for whatever is followed. -/
import Derived.Test.YtadlnjglpigjmaaDN

import Derived.Test.YtadlnjglpigjmaaDI

import Derived.Deep.LoopGhost

import Derived.Deep.RegionHeld3

namespace Go.Proofs.Ytadlnjglpigjmaa

open Go.RowKit

/-- A table of tables of marks. -/
def Tab3 (w : World) (ao : Option Addr) (A : Nat → Option Addr) (C : Nat → Nat) (G : Nat → List Nat) (n m size : Nat) (F : Nat → Nat → Nat → Bool) : Prop :=
  RowsAt 1 w Any ((List.range n).map fun i => [.slice (A i) m (C i)]) ao ∧ ∀ i, i < n → (G i).length = m ∧ RowsAt 1 w Any ((G i).map (gRow size)) (A i) ∧ RowsF w (G i) size (F i)
theorem Tab3.gr {w w' : World} {ao : Option Addr} {A : Nat → Option Addr} {C : Nat → Nat} {G : Nat → List Nat} {n m size : Nat} {F : Nat → Nat → Nat → Bool} (h : Tab3 w ao A C G n m size F) (hg : Gr w w' none) : Tab3 w' ao A C G n m size F :=
  ⟨h.1.gr0 hg, fun i hi => ⟨(h.2 i hi).1, (h.2 i hi).2.1.gr0 hg, (h.2 i hi).2.2.gr0 hg⟩⟩
/-- What lies apart. -/
def Sep3 (lo : Nat) (ao : Option Addr) (A : Nat → Option Addr) (G : Nat → List Nat) (n : Nat) : Prop :=
  ∀ i, i < n → (G i).Nodup ∧ ∀ g ∈ G i, lo ≤ g ∧ ob ao ≠ some g ∧ (∀ k, k < n → ob (A k) ≠ some g) ∧ ∀ k, k < n → k ≠ i → g ∉ G k
theorem Tab3.head {w : World} {ao : Option Addr} {A : Nat → Option Addr} {C : Nat → Nat} {G : Nat → List Nat} {n m size : Nat} {F : Nat → Nat → Nat → Bool} (h : Tab3 w ao A C G n m size F) {i : Nat} (hi : i < n) : ∃ b off, ao = some ⟨b, off, none⟩ ∧ w.cell? ⟨b, off + i, none⟩ = some (.slice (A i) m (C i)) := by
  obtain ⟨b, off, e, -, hc⟩ := h.1 i (by simpa using hi)
  refine ⟨b, off, e, ?_⟩
  have := hc 0 (.slice (A i) m (C i)) (by simp)
  simpa using this
/-- One table is written. -/
theorem Tab3.wr {w w' : World} {lo : Nat} {ao : Option Addr} {A : Nat → Option Addr} {C : Nat → Nat} {G : Nat → List Nat} {n m size k : Nat} {F F' : Nat → Nat → Nat → Bool} (h : Tab3 w ao A C G n m size F) (hs : Sep3 lo ao A G n) (hk : k < n) (hw : Wr (fun b => b ∈ G k) w w') (hR : RowsF w' (G k) size (F' k)) (hF : ∀ i, i ≠ k → F' i = F i) : Tab3 w' ao A C G n m size F' := by
  have hsk := (hs k hk).2
  refine ⟨(h.1.block.wr hw fun b _ hb hp => (hsk b hp).2.1 hb).any, fun i hi => ⟨(h.2 i hi).1, ((h.2 i hi).2.1.block.wr hw fun b _ hb hp => (hsk b hp).2.2.1 i hi hb).any, ?_⟩⟩
  by_cases e : i = k
  · subst e; exact hR
  · rw [hF i e]
    exact (h.2 i hi).2.2.wr hw fun g hg hp => (hsk g hp).2.2.2 i hi e hg
def tF (F : Nat → Nat → Nat → Bool) : Nat → Nat × Nat → Bool := fun i b => F i b.1 b.2
def mrg3 (F : Nat → Nat → Nat → Bool) (k : Nat) (R : Nat × Nat → Bool) : Nat → Nat → Nat → Bool := fun i v u => if i = k then F i v u || R (v, u) else F i v u
theorem tF_mrg (F : Nat → Nat → Nat → Bool) (k : Nat) (R : Nat × Nat → Bool) : tF (mrg3 F k R) = mrg (tF F) k R := by
  funext i b; unfold tF mrg3 mrg; rfl
def boxL3 (n m size : Nat) : List (Nat × (Nat × Nat)) := (List.range n).flatMap fun i => (List.range m).flatMap fun v => (List.range size).map fun k => (i, (v, k))
theorem boxL3_mem {n m size i v k : Nat} (hi : i < n) (hv : v < m) (hk : k < size) : (i, (v, k)) ∈ boxL3 n m size := by
  unfold boxL3
  rw [List.mem_flatMap]
  refine ⟨i, List.mem_range.2 hi, ?_⟩
  rw [List.mem_flatMap]
  exact ⟨v, List.mem_range.2 hv, List.mem_map.2 ⟨k, List.mem_range.2 hk, rfl⟩⟩
/-- The row behind a point. -/
def rowB (T : List Int) (size : Nat) (kd op x y n : Int) (i : Nat) (F : Nat → Nat → Bool) (b : Nat × Nat) : Bool := decide (b.1 < T.length) && (decide (b.2 < size) && aftB T kd op x y n i F b.1 b.2)
/-- The kind of what is followed, and what it says of the program. -/
def KindOk (p : Pr) (kd : Int) (size : Nat) (val : Nat → (Nat × Nat → Prop) → Nat → Prop) : Prop :=
  (kd = 0 ∨ kd = 1 ∨ kd = 2) ∧ MonoV val ∧ (kd ≤ 1 → size = (pts p).length) ∧ (kd = 2 → size = 10) ∧
  ∀ i, i < (pts p).length → ∀ F : Nat → Nat → Bool, (∀ v k, F v k = true → v < p.types.length ∧ k < size) → ∀ k, (k < size ∧ valB kd (ptAt (pts p) i).op (ptAt (pts p) i).y (ptAt (pts p) i).n i F k = true) ↔ val i (fun b => F b.1 b.2 = true) k
theorem rowB_iff {p : Pr} (hv : validP p = true) {kd : Int} {size : Nat} {val : Nat → (Nat × Nat → Prop) → Nat → Prop} (hk : KindOk p kd size val) {i : Nat} (hi : i < (pts p).length) {F : Nat → Nat → Bool} (hF : ∀ v k, F v k = true → v < p.types.length ∧ k < size) {q : Pt} (hq : ptAt (pts p) i = q) (b : Nat × Nat) :
    rowB p.types size kd q.op q.x q.y q.n i F b = true ↔ trkA p.types (pts p) val i (fun b => F b.1 b.2 = true) b := by
  have hval := hk.2.2.2.2 i hi F hF b.2
  have hst := set_in hv hi
  rw [← ptAt_get hi] at hst
  rw [hq] at hval hst
  unfold rowB trkA aftB
  rw [hq]
  by_cases e : setOf q.op q.x = (b.1 : Int)
  · rw [if_pos e, if_pos e, ← hval, Bool.and_eq_true, Bool.and_eq_true, decide_eq_true_eq, decide_eq_true_eq]
    constructor
    · exact fun h => h.2
    · exact fun h => ⟨by omega, h⟩
  · rw [if_neg e, if_neg e]
    cases ht : takesB p.types q.op q.x q.y b.1 with
    | true => simp
    | false =>
      simp only [Bool.false_eq_true, if_false, Bool.and_eq_true, decide_eq_true_eq, true_and]
      constructor
      · exact fun h => h.2.2
      · exact fun h => ⟨(hF _ _ h).1, (hF _ _ h).2, h⟩
/-- To the first j of what comes next the row has been added. -/
def QN (N : List Nat) (j : Nat) (k : Nat) (_ : Nat × Nat) : Prop := ∃ j', j' < j ∧ N[j']? = some k
theorem QN.step {N : List Nat} {j x : Nat} (hx : N[j]? = some x) (k : Nat) (b : Nat × Nat) (h : QN N (j + 1) k b) : QN N j k b ∨ k = x := by
  obtain ⟨j', h1, h2⟩ := h
  by_cases e : j' = j
  · subst e; rw [hx] at h2; exact .inr (by simpa using h2.symm)
  · exact .inl ⟨j', by omega, h2⟩
theorem QN.exit {L : List Pt} {a j : Nat} (hj : (nextOf L a).length ≤ j) (k : Nat) (hk : k ∈ nextOf L a) (b : Nat × Nat) : QN (nextOf L a) j k b := by
  obtain ⟨j', hj', rfl⟩ := List.getElem_of_mem hk
  exact ⟨j', by omega, List.getElem?_eq_getElem hj'⟩
/-- A table of tables is handed back. -/
def Tabled3 (p : Pr) (size : Nat) (val : Nat → (Nat × Nat → Prop) → Nat → Prop) (w : World) (e : Ending) (w' : World) : Prop :=
  ∃ (ao : Option Addr) (c : Nat) (A : Nat → Option Addr) (C : Nat → Nat) (G : Nat → List Nat), e = .returned (.slice ao (pts p).length c) ∧ Tab3 w' ao A C G (pts p).length p.types.length size (trkB p val) ∧ Gr w w' none
theorem trk_done {p : Pr} {val : Nat → (Nat × Nat → Prop) → Nat → Prop} {F : Nat → Nat → Nat → Bool} (h : ∀ i b, tF F i b = true ↔ Least (FwS (pts p) (fun _ => False) (trkA p.types (pts p) val)) i b) : F = trkB p val := by
  funext i v k
  rw [Bool.eq_iff_iff, trkB_iff]
  exact h i (v, k)
theorem SBBinfo : (Try.prog.info? 55).map (fun i => (i.zero, i.size, i.bytes)) = some (some (.slice none 0 0), 1, 24) := by kernel_rfl
end Go.Proofs.Ytadlnjglpigjmaa

namespace Go.Proofs.Ytadlnjglpigjmaa

open Go.RowKit

set_option maxRecDepth 100000 in
set_option maxHeartbeats 8000000 in
theorem l10Flow_any (p : Pr) (kd : Int) (size : Nat) (val : Nat → (Nat × Nat → Prop) → Nat → Prop) (at' ab : Option Addr) (ct cb : Nat) (w : World) (hT : InAt w Any p.types at') (hB : SlAt w Any p.body ab) (hv : validP p = true) (hK : KindOk p kd size val) :
    Calls Try.prog 73 #[.agg #[.slice at' p.types.length ct, .slice ab p.body.length cb], .int .i64 kd, .int .i64 size] w (Tabled3 p size val w) := by
  have hcnt := valid_count hv
  have hlc := count_length p.body
  have hpl : p.types.length ≤ 6 := valid_types hv
  have hml : (pts p).length ≤ 61 := pts_len hv
  have hpos := pts_pos' p
  have HNX := Lib.hid (pts_next p)
  have HV := Lib.hid hv
  have HK := Lib.hid hK
  have hs0 : 0 < size := by
    rcases hK.1 with h | h | h
    · have := hK.2.2.1 (by omega); omega
    · have := hK.2.2.1 (by omega); omega
    · have := hK.2.2.2.1 h; omega
  have hs1 : size ≤ 61 := by
    rcases hK.1 with h | h | h
    · have := hK.2.2.1 (by omega); omega
    · have := hK.2.2.1 (by omega); omega
    · have := hK.2.2.2.1 h; omega
  clear hv hK
  have hg1 : ∀ o, Gr w (w.alloc o) none := fun o => (Gr.refl _ _).alloc _
  have HT0 := Lib.hid hT
  go_enter Try.func73, Try.ntmps73
  go_wp2_with fail
  refine (l2Points_any p at' ab ct cb _ (hB.gr0 (hg1 _)) (by omega) (by unfold maxLen; omega)).mono ?_
  rintro e w1 ⟨L, am, c, hM, rfl, hown, hg⟩
  have hG1 : Gr w w1 none := (hg1 _).trans0 hg
  have HM := Lib.hid hM
  have HR := Lib.hid hown.read
  rw [← hM] at hml HNX hpos
  have q0 : w1.cell? ⟨w.heap.size, 0, none⟩ = some (.slice at' p.types.length ct) := hg.cell (p := ⟨w.heap.size, 0, none⟩) (cell_of_row _ _ _ _ _ _ (heap1_0 _ _)) (by simp)
  have q1 : w1.cell? ⟨w.heap.size, 1, none⟩ = some (.slice ab p.body.length cb) := hg.cell (p := ⟨w.heap.size, 1, none⟩) (cell_of_row _ _ _ _ _ _ (heap1_0 _ _)) (by simp)
  clear hM hown hg hB hT
  have hE : (w1.alloc (.cells #[] 55)).heap[w1.heap.size]? = some (.cells #[] 55 (0, 0)) := heap1_0 _ _
  have hmk := fun w : World => run_make_row' (P := Try.prog) 54 4 (.bool false) 1 Try.underlying54 Binfo rfl .i64 .i64 size (by omega) (by omega) w
  go_wp2_with fail
  obtain ⟨wB, hwB⟩ : ∃ wB : World, wB = w1.alloc (.cells #[] 55) := ⟨_, rfl⟩
  have hgB : Gr w1 wB none := by rw [hwB]; exact (Gr.refl _ _).alloc _
  have hszB : w1.heap.size < wB.heap.size := by rw [hwB]; simp
  replace q0 := hgB.cell q0 (by simp)
  replace q1 := hgB.cell q1 (by simp)
  have hGB : Gr w wB none := hG1.trans0 hgB
  have HRB := Lib.hid (HR.out.gr hgB)
  have HTB' := Lib.hid (HT0.out.gr0 hGB)
  rw [← hwB] at hE ⊢
  have HQ0 := Lib.hid q0
  have HQ1 := Lib.hid q1
  have hL0 : LstR 55 1 wB w1.heap.size wB.heap.size ((List.range 0).map fun i => [Value.slice ((fun _ => none : Nat → Option Addr) i) p.types.length ((fun _ => 0 : Nat → Nat) i)]) (some ⟨w1.heap.size, 0, none⟩) 0 0 := LstR.empty hgB.size (Nat.le_refl _) hE
  have HGB := Lib.hid hGB
  clear hwB hgB hGB hE hG1 HR HT0 q0 q1
  go_loopw [8, 9] (fun v i wr => ∃ (k cap : Nat) (ao : Option Addr) (A : Nat → Option Addr) (C : Nat → Nat) (G : Nat → List Nat), k ≤ L.length ∧ i = .int .i64 k ∧ v = .slice ao k cap ∧ LstR 55 1 wr w1.heap.size wB.heap.size ((List.range k).map fun i => [.slice (A i) p.types.length (C i)]) ao k cap ∧
    (∀ i, i < k → (G i).length = p.types.length ∧ (G i).Nodup ∧ RowsAt 1 wr Any ((G i).map (gRow size)) (A i) ∧ RowsF wr (G i) size (fun _ _ => false) ∧ (∀ g ∈ G i, wB.heap.size ≤ g) ∧ (0 < p.types.length → ∀ b, ob (A i) = some b → ∃ cs, wr.heap[b]? = some (.cells cs 54 (0, 0)))) ∧ (∀ i j, i < k → j < k → j ≠ i → ∀ g ∈ G i, g ∉ G j) ∧ Gr wB wr none) (fun _ i _ => L.length - (intOf i).toNat)
  case atStart => exact ⟨0, 0, _, fun _ => none, fun _ => 0, fun _ => [], Nat.zero_le _, rfl, rfl, hL0, fun i hi => absurd hi (by omega), fun i j hi => absurd hi (by omega), Gr.refl _ _⟩
  case round =>
    obtain ⟨k, cap, ao, A, C, G, hk, rfl, rfl, hLs, hrows, hsep, hg⟩ := hrel
    have HLS := Lib.hid hLs
    have HROWS := Lib.hid hrows
    have HSEP := Lib.hid hsep
    have HG := Lib.hid hg
    clear hLs hrows hsep hL0
    by_cases hlt : k < L.length
    · rename World => wO
      have hE2 : (wO.alloc (.cells #[] 54)).heap[wO.heap.size]? = some (.cells #[] 54 (0, 0)) := heap1_0 _ _
      obtain ⟨wP, hwP⟩ : ∃ wP : World, wP = wO.alloc (.cells #[] 54) := ⟨_, rfl⟩
      have hgP : Gr wO wP none := by rw [hwP]; exact (Gr.refl _ _).alloc _
      have hszP : wO.heap.size < wP.heap.size := by rw [hwP]; simp
      rw [← hwP] at hE2
      have hL1 : LstR 54 1 wP wO.heap.size wP.heap.size (([] : List Nat).map (gRow size)) (some ⟨wO.heap.size, 0, none⟩) 0 0 := LstR.empty hgP.size (Nat.le_refl _) hE2
      have HGP := Lib.hid hgP
      have HSZP := Lib.hid hszP
      have HQP := Lib.hid (hgP.cell (hg.cell HQ0.out (by simp)) (by simp))
      have hwP2 : wO.alloc (.cells #[] 54) = wP := hwP.symm
      have HWP := Lib.hid hwP2
      clear hgP hwP hg hwP2 hE2 hszP
      go_wp2_with fail
      rw [HWP.out]
      go_loopw [10, 11] (fun v i wr => ∃ (u cap : Nat) (ar : Option Addr) (gs : List Nat), u ≤ p.types.length ∧ i = .int .i64 u ∧ v = .slice ar u cap ∧ gs.length = u ∧ gs.Nodup ∧ LstR 54 1 wr wO.heap.size wP.heap.size (gs.map (gRow size)) ar u cap ∧ RowsF wr gs size (fun _ _ => false) ∧ (∀ g ∈ gs, wP.heap.size ≤ g) ∧ Gr wP wr none) (fun _ i _ => p.types.length - (intOf i).toNat)
      case atStart => exact ⟨0, 0, _, [], Nat.zero_le _, rfl, rfl, rfl, List.nodup_nil, hL1, fun v hv => absurd hv (by simp), by simp, Gr.refl _ _⟩
      case round =>
        obtain ⟨u, cap2, ar, gs, hu, rfl, rfl, hgl, hnd, hLr, hRF, hgs, hg⟩ := hrel
        have HLR := Lib.hid hLr
        have HRF := Lib.hid hRF
        have HND := Lib.hid hnd
        have HGS := Lib.hid hgs
        have HGL := Lib.hid hgl
        have HGR := Lib.hid hg
        have q0 := hg.cell HQP.out (by simp)
        clear hLr hRF hnd hgs hgl hg hL1
        by_cases hult : u < p.types.length
        · have hR0 : Row (wr.alloc (.cells (madeCells #[.bool false] size) 4)) wr.heap.size size (fun _ => false) := Row.new wr size
          have HR0 := Lib.hid hR0
          clear hR0
          go_wp2_with (at_builtin; refine app_row wr _ rfl (.tmp 33) (.tmp 36) rfl wO.heap.size wP.heap.size ar cap2 u size wr.heap.size gs rfl HLR.out (((Gr.refl _ _).alloc _).alloc _) (wr.heap.size + 1) 1 rfl (heap2_1 _ _ _) (by omega) HGR.out.size ?_; rintro g cap' w4 hL4 hg4 hgo)
          go_roundw
          case rel =>
            refine ⟨u + 1, cap', some ⟨g, 0, none⟩, gs ++ [wr.heap.size], by omega, by go_num, rfl, by simp [HGL.out], ?_, hL4, HRF.out.grow HLR.out (((Gr.refl _ _).alloc _).alloc _) (HR0.out.gr0 ((Gr.refl _ _).alloc _)) hgo, ?_, hg4 _ ((HGR.out.alloc _).alloc _) (Nat.le_refl _)⟩
            · rw [List.nodup_append]
              refine ⟨HND.out, by simp, ?_⟩
              intro x hx y hy
              have := HRF.out.lt x hx
              simp at hy
              omega
            · intro x hx
              rcases List.mem_append.1 hx with hx | hx
              · exact HGS.out x hx
              · simp at hx; subst hx; exact HGR.out.size
          case measure => simp [intOf]; omega
        · obtain rfl : u = p.types.length := by omega
          have hgO := HGP.out.trans0 HGR.out
          have HGO := Lib.hid hgO
          have HLO := Lib.hid (HLS.out.gr hgO)
          clear hgO
          go_wp2_with (at_builtin; refine app_r wr _ rfl (.tmp 38) (.tmp 40) 76 rfl 55 1 24 (.slice none 0 0) Try.underlying76 SBBinfo rfl (by decide) (by decide) w1.heap.size wB.heap.size ao cap k _ [.slice ar p.types.length cap2] rfl HLO.out ((Gr.refl _ _).alloc _) wr.heap.size 1 rfl _ (heap1_0 _ _) rfl rfl (by intro v hv; simp at hv; subst hv; rfl) (by omega) (HG.out.trans0 HGO.out).size ?_; rintro g cap' w4 hL4 hg4 hgo)
          have hg14 : Gr wB w4 none := hg4 _ ((HG.out.trans0 HGO.out).alloc _) (Nat.le_refl _)
          have hgr4 : Gr wr w4 (ob ao) := (((Gr.refl wr none).alloc _).weaken).trans hgo (fun _ h => .inl h)
          have haolt : ∀ g, ob ao = some g → g < wO.heap.size := fun g h => HLS.out.lt g h
          have hszO : wO.heap.size < wP.heap.size := HSZP.out
          go_roundw
          case rel =>
            refine ⟨k + 1, cap', some ⟨g, 0, none⟩, (fun i => if i = k then ar else A i), (fun i => if i = k then cap2 else C i), (fun i => if i = k then gs else G i), by omega, by go_num, rfl, ?_, ?_, ?_, hg14⟩
            · have e : (List.range (k + 1)).map (fun i => [Value.slice (if i = k then ar else A i) p.types.length (if i = k then cap2 else C i)]) = (List.range k).map (fun i => [Value.slice (A i) p.types.length (C i)]) ++ [[.slice ar p.types.length cap2]] := by
                rw [List.range_succ, List.map_append]
                congr 1
                · refine List.map_congr_left fun i hi => ?_
                  have : i ≠ k := by have := List.mem_range.1 hi; omega
                  simp [this]
                · simp
              rw [e]; exact hL4
            · intro i hi
              by_cases e : i = k
              · subst e
                simp only [if_true]
                have hoffA : ∀ b, ob ar = some b → ob ao ≠ some b := fun b hb h => by have := haolt b h; have := HLR.out.low b hb; omega
                refine ⟨HGL.out, HND.out, HLR.out.rows.off hgr4 (fun b hb => hoffA b hb), HRF.out.gr hgr4 (fun g hg h => by have := haolt g h; have := HGS.out g hg; omega), fun g hg => by have := HGS.out g hg; have := HGP.out.size; have := HG.out.size; omega, fun hm b hb => ?_⟩
                have hne : gs.map (gRow size) ≠ [] := fun h => by
                  have := List.map_eq_nil_iff.1 h
                  have h2 := HGL.out
                  rw [this] at h2; simp at h2; omega
                obtain ⟨cs, hc⟩ := HLR.out.typ hne hb
                exact ⟨cs, by rw [hgr4.block b (lt_of_block hc) (fun h => hoffA b hb h.symm)]; exact hc⟩
              · have hik : i < k := by omega
                simp only [if_neg e]
                obtain ⟨h1, h2, h3, h4, h5, h6⟩ := HROWS.out i hik
                have hne : (List.range k).map (fun i => [Value.slice (A i) p.types.length (C i)]) ≠ [] := fun h => by
                  have := congrArg List.length h; simp at this; omega
                have hO4 : Gr wO w4 (ob ao) := HGO.out.weaken.trans hgr4 (fun _ h => .inl h)
                have hoffG : ∀ g ∈ G i, ob ao ≠ some g := fun g hg hb => by
                  obtain ⟨cs, hc⟩ := HLS.out.typ hne hb
                  exact h4.off hc (by decide) hg
                have hoffA : 0 < p.types.length → ∀ b, ob (A i) = some b → ob ao ≠ some b := fun hm b hb h => by
                  obtain ⟨cs, hc⟩ := HLS.out.typ hne h
                  obtain ⟨cs', hc'⟩ := h6 hm b hb
                  rw [hc] at hc'
                  simp at hc'
                refine ⟨h1, h2, ?_, h4.gr hO4 hoffG, h5, fun hm b hb => ?_⟩
                · by_cases hm : 0 < p.types.length
                  · exact h3.off hO4 (fun b hb => hoffA hm b hb)
                  · have : G i = [] := List.eq_nil_of_length_eq_zero (by omega)
                    rw [this]; exact RowsAt.nil _ _ _ _
                · obtain ⟨cs, hc⟩ := h6 hm b hb
                  exact ⟨cs, by rw [hO4.block b (lt_of_block hc) (fun h => hoffA hm b hb h.symm)]; exact hc⟩
            · intro i j hi hj hne g hg hg2
              by_cases e1 : i = k
              · subst e1
                have e2 : j ≠ i := hne
                simp only [if_true] at hg
                simp only [if_neg e2] at hg2
                have := (HROWS.out j (by omega)).2.2.2.1.lt g hg2
                have := HGS.out g hg
                omega
              · simp only [if_neg e1] at hg
                by_cases e2 : j = k
                · subst e2
                  simp only [if_true] at hg2
                  have := (HROWS.out i (by omega)).2.2.2.1.lt g hg
                  have := HGS.out g hg2
                  omega
                · simp only [if_neg e2] at hg2
                  exact HSEP.out i j (by omega) (by omega) hne g hg hg2
          case measure => simp [intOf]; omega
    · obtain rfl : k = L.length := by omega
      rename World => wC
      have hne : (List.range L.length).map (fun i => [Value.slice (A i) p.types.length (C i)]) ≠ [] := fun h => by
        have h2 := congrArg List.length (List.map_eq_nil_iff.1 h)
        rw [List.length_range] at h2
        simp only [List.length_nil] at h2
        omega
      have HS3 := Lib.hid (show Sep3 wB.heap.size ao A G L.length from fun i hi => by
        obtain ⟨h1, h2, h3, h4, h5, h6⟩ := HROWS.out i hi
        refine ⟨h2, fun g hg => ⟨h5 g hg, fun hb => ?_, fun k hk hb => ?_, fun k hk hne2 => HSEP.out i k hi hk hne2 g hg⟩⟩
        · obtain ⟨cs, hc⟩ := HLS.out.typ hne hb
          exact h4.off hc (by decide) hg
        · have hm : 0 < p.types.length := by rw [← h1]; exact List.length_pos_of_mem hg
          obtain ⟨cs, hc⟩ := (HROWS.out k hk).2.2.2.2.2 hm g hb
          exact h4.off hc (by decide) hg)
      have HT3 := Lib.hid (show Tab3 wC ao A C G L.length p.types.length size (fun _ _ _ => false) from ⟨HLS.out.rows, fun i hi => ⟨(HROWS.out i hi).1, (HROWS.out i hi).2.2.1, (HROWS.out i hi).2.2.2.1⟩⟩)
      have HGLT := Lib.hid (show ∀ i, i < L.length → ∀ g ∈ G i, g < wC.heap.size from fun i hi g hg => (HROWS.out i hi).2.2.2.1.lt g hg)
      have HFw0 := Lib.hid (show FwOk L (fun _ => False) (trkA p.types L val) (tF fun _ _ _ => false) from ⟨(fun i b h => by unfold tF at h; cases h), (fun b h => h.elim)⟩)
      have HA := Lib.hid (trkA_mono (T := p.types) (L := L) HK.out.2.1)
      clear hne hlt hk hmk
      go_wp2_with fail
      go_loopg [12] (leftG (boxL3 L.length p.types.length size) (tF fun _ _ _ => false) true) (fun gh s wq => ∃ (c : Bool) (F : Nat → Nat → Nat → Bool), gh = leftG (boxL3 L.length p.types.length size) (tF F) c ∧ s = .bool c ∧ FwA L (fun _ => False) (trkA p.types L val) (tF F) c ∧ (∀ i v k, F i v k = true → v < p.types.length ∧ k < size) ∧ Tab3 wq ao A C G L.length p.types.length size F ∧ Gr wB wq none ∧ wC.heap.size ≤ wq.heap.size)
      case atStart => exact ⟨true, fun _ _ _ => false, rfl, rfl, FwA.start HFw0.out, (fun i v k h => by cases h), HT3.out, HG.out, Nat.le_refl _⟩
      case round =>
        obtain ⟨c, F, rfl, rfl, hA, hrg, hT3, hg, hsz⟩ := hrel
        have HAA := Lib.hid hA
        have HRG := Lib.hid hrg
        have HT3 := Lib.hid hT3
        have HG := Lib.hid hg
        clear hA hrg hT3 hg
        cases c with
        | false =>
          have hFT : F = trkB p val := trk_done (by have := HAA.out.2 rfl; rw [HM.out] at this; exact this)
          have HFT := Lib.hid hFT
          clear hFT
          go_wp2_with fail
          go_ret
          refine ⟨ao, cap, A, C, G, by rw [← HM.out]; rfl, ?_, HGB.out.trans0 HG.out⟩
          rw [← HM.out, ← HFT.out]; exact HT3.out
        | true =>
          go_wp2_with fail
          go_loopw [12, 13] (fun s i wq => ∃ (c : Bool) (F2 : Nat → Nat → Nat → Bool) (a : Nat), a ≤ L.length ∧ s = .bool c ∧ i = .int .i64 a ∧ FwR (boxL3 L.length p.types.length size) L (fun _ => False) (trkA p.types L val) (tF F) (tF F2) c a ∧ (∀ i v k, F2 i v k = true → v < p.types.length ∧ k < size) ∧ Tab3 wq ao A C G L.length p.types.length size F2 ∧ Gr wB wq none ∧ wC.heap.size ≤ wq.heap.size) (fun _ i _ => L.length - (intOf i).toNat)
          case atStart => exact ⟨false, F, 0, Nat.zero_le _, rfl, rfl, FwR.start HAA.out.1, HRG.out, HT3.out, HG.out, hsz⟩
          case round =>
            obtain ⟨c, F2, a, ha, rfl, rfl, hR, hrg, hT3, hg, hsz⟩ := hrel
            have HR := Lib.hid hR
            have HRG := Lib.hid hrg
            have HT3 := Lib.hid hT3
            have HG := Lib.hid hg
            clear hR hrg hT3
            by_cases haL : a < L.length
            · obtain ⟨b, po, rfl, an, cn, d0, d1, d2, d3, d4, hin, -⟩ := (HRB.out.gr hg) a haL
              have q0 := hg.cell HQ0.out (by simp)
              have q1 := hg.cell HQ1.out (by simp)
              obtain ⟨q, eq⟩ : ∃ q, L[a] = q := ⟨_, rfl⟩
              have hnq : nextOf L a = q.next := by rw [nextOf_get haL, eq]
              rw [eq] at d0 d1 d2 d3 d4
              have hpa : ptAt L a = q := (ptAt_get haL).trans eq
              have HPA := Lib.hid hpa
              have HNQ := Lib.hid hnq
              obtain ⟨nn, hnn⟩ : ∃ nn, q.next.length = nn := ⟨_, rfl⟩
              rw [hnn] at d4
              have HNN := Lib.hid hnn
              have hnn2 : nn ≤ 2 := by have := (HNX.out a haL).1; rw [hnq, hnn] at this; exact this
              obtain ⟨bh, oh, rfl, h0⟩ := HT3.out.head haL
              have haP : a < (pts p).length := by rw [← HM.out]; exact haL
              have hqp : ptAt (pts p) a = q := by rw [← HM.out]; exact hpa
              have HQP := Lib.hid hqp
              have HOK := Lib.hid (pt_ok HV.out haP)
              have hOK : q.op = 9 ∨ q.op = 10 ∨ q.op = 11 ∨ simpleS p.types q.op q.x q.y q.n = true := by
                have := HOK.out
                rw [← ptAt_get haP, hqp] at this; exact this
              have HI := Lib.hid (show kd ≤ 1 → a < size from fun h => by rw [HK.out.2.2.1 h, ← HM.out]; exact haL)
              have HN := Lib.hid (show kd = 2 → q.op = 1 → 0 ≤ q.n ∧ q.n < size from fun h ho => by
                rw [HK.out.2.2.2.1 h]
                rcases hOK with h | h | h | h
                · omega
                · omega
                · omega
                · rw [ho] at h; have := simple_n h; omega)
              have HYY := Lib.hid (show q.op = 3 ∨ q.op = 4 ∨ q.op = 5 → ∃ j : Nat, q.y = j ∧ j < p.types.length from fun ho => by
                rcases hOK with h | h | h | h
                · omega
                · omega
                · omega
                · obtain ⟨_, y, _, hy, _, hl⟩ := simple_xy h (by omega)
                  exact ⟨y, hy, hl⟩)
              have HST := Lib.hid (show -1 ≤ setOf q.op q.x ∧ setOf q.op q.x < p.types.length by
                have := set_in HV.out haP
                rw [← ptAt_get haP, hqp] at this; exact this)
              have HROW := Lib.hid (fun b => rowB_iff HV.out HK.out haP (fun v k => HRG.out a v k) hqp b)
              rw [← HM.out] at HROW
              have HGU := Lib.hid hg
              rename World => wA
              clear eq hnq hpa hnn hqp hOK hin hg
              go_upto_region 18 with fail
              go_cut [14] (fun s wx => ∃ (a' : Option Addr) (c' : Nat), s = .slice a' p.types.length c' ∧ FromT wx wA.heap.size p.types.length size a' (aftB p.types kd q.op q.x q.y q.n a (F2 a)) ∧ Gr wA wx none)
              case first =>
--<RA
                refine wp_region_held_drew (S := fun w' => Gr wA w' none) (by kernel_rfl) ((Gr.refl _ _).drew) (fun hHeld => ?_)
                refine wpAnyH_take (i := 0) (v := ?_) rfl (by kernel_rfl) (by kernel_rfl) (by kernel_rfl) (fun _ _ _ h => h) (Or.inl ⟨by rfl, ?_⟩) hHeld ?_
                rotate_left
                focus (intro wq hq; have k0 := hq.cell q0 (by simp); have k1 := hq.cell q1 (by simp); go_simp; try with_reducible rfl)
                simp only [Act.put, List.getElem_toArray, List.getElem_cons_zero, List.setIfInBounds_toArray, List.set_cons_zero, List.set_cons_succ]
                refine wpAnyH_take (i := 1) (v := ?_) rfl (by kernel_rfl) (by kernel_rfl) (by kernel_rfl) (fun _ _ _ h => h) (Or.inl ⟨by rfl, ?_⟩) hHeld ?_
                rotate_left
                focus (intro wq hq; clear hq; go_simp; try with_reducible rfl)
                simp only [Act.put, List.getElem_toArray, List.getElem_cons_succ, List.getElem_cons_zero, List.setIfInBounds_toArray, List.set_cons_zero, List.set_cons_succ]
                refine wpAnyH_take (i := 2) (v := ?_) rfl (by kernel_rfl) (by kernel_rfl) (by kernel_rfl) (fun _ _ _ h => h) (Or.inl ⟨by rfl, ?_⟩) hHeld ?_
                rotate_left
                focus (intro wq hq; clear hq; go_simp; try with_reducible rfl)
                simp only [Act.put, List.getElem_toArray, List.getElem_cons_succ, List.getElem_cons_zero, List.setIfInBounds_toArray, List.set_cons_zero, List.set_cons_succ]
                refine wpAnyH_take (i := 3) (v := ?_) rfl (by kernel_rfl) (by kernel_rfl) (by kernel_rfl) (fun _ _ _ h => h) (Or.inl ⟨by rfl, ?_⟩) hHeld ?_
                rotate_left
                focus (intro wq hq; clear hq; go_simp; try with_reducible rfl)
                simp only [Act.put, List.getElem_toArray, List.getElem_cons_succ, List.getElem_cons_zero, List.setIfInBounds_toArray, List.set_cons_zero, List.set_cons_succ]
                refine wpAnyH_take (i := 4) (v := ?_) rfl (by kernel_rfl) (by kernel_rfl) (by kernel_rfl) (fun _ _ _ h => h) (Or.inl ⟨by rfl, ?_⟩) hHeld ?_
                rotate_left
                focus (intro wq hq; have k0 := hq.cell d0 (by simp); have k1 := hq.cell d1 (by simp); have k2 := hq.cell d2 (by simp); have k3 := hq.cell d3 (by simp); have k4 := hq.cell d4 (by simp); go_simp; try with_reducible rfl)
                simp only [Act.put, List.getElem_toArray, List.getElem_cons_succ, List.getElem_cons_zero, List.setIfInBounds_toArray, List.set_cons_zero, List.set_cons_succ]
                refine wpAnyH_take (i := 5) (v := ?_) rfl (by kernel_rfl) (by kernel_rfl) (by kernel_rfl) (fun _ _ _ h => h) (Or.inl ⟨by rfl, ?_⟩) hHeld ?_
                rotate_left
                focus (intro wq hq; clear hq; go_simp; try with_reducible rfl)
                simp only [Act.put, List.getElem_toArray, List.getElem_cons_succ, List.getElem_cons_zero, List.setIfInBounds_toArray, List.set_cons_zero, List.set_cons_succ]
                refine wpAnyH_take (i := 6) (v := ?_) rfl (by kernel_rfl) (by kernel_rfl) (by kernel_rfl) (fun _ _ _ h => h) (Or.inl ⟨by rfl, ?_⟩) hHeld ?_
                rotate_left
                focus (intro wq hq; clear hq; go_simp; try with_reducible rfl)
                simp only [Act.put, List.getElem_toArray, List.getElem_cons_succ, List.getElem_cons_zero, List.setIfInBounds_toArray, List.set_cons_zero, List.set_cons_succ]
                refine wpAnyH_take (i := 7) (v := ?_) rfl (by kernel_rfl) (by kernel_rfl) (by kernel_rfl) (fun _ _ _ h => h) (Or.inl ⟨by rfl, ?_⟩) hHeld ?_
                rotate_left
                focus (intro wq hq; clear hq; go_simp; try with_reducible rfl)
                simp only [Act.put, List.getElem_toArray, List.getElem_cons_succ, List.getElem_cons_zero, List.setIfInBounds_toArray, List.set_cons_zero, List.set_cons_succ]
                refine wpAnyH_take (i := 8) (v := ?_) rfl (by kernel_rfl) (by kernel_rfl) (by kernel_rfl) (fun _ _ _ h => h) (Or.inl ⟨by rfl, ?_⟩) hHeld ?_
                rotate_left
                focus (intro wq hq; clear hq; go_simp; try with_reducible rfl)
                simp only [Act.put, List.getElem_toArray, List.getElem_cons_succ, List.getElem_cons_zero, List.setIfInBounds_toArray, List.set_cons_zero, List.set_cons_succ]
                refine wpAnyH_take (i := 9) (v := ?_) rfl (by kernel_rfl) (by kernel_rfl) (by kernel_rfl) (fun _ _ _ h => h) (Or.inl ⟨by rfl, ?_⟩) hHeld ?_
                rotate_left
                focus (intro wq hq; have k0 := hq.cell h0 (by simp); go_simp; try with_reducible rfl)
                simp only [Act.put, List.getElem_toArray, List.getElem_cons_succ, List.getElem_cons_zero, List.setIfInBounds_toArray, List.set_cons_zero, List.set_cons_succ]
                refine wpAnyH_take (i := 10) (v := ?_) rfl (by kernel_rfl) (by kernel_rfl) (by kernel_rfl) (fun _ _ _ h => h) (Or.inl ⟨by rfl, ?_⟩) hHeld ?_
                rotate_left
                focus (intro wq hq; clear hq; go_simp; try with_reducible rfl)
                simp only [Act.put, List.getElem_toArray, List.getElem_cons_succ, List.getElem_cons_zero, List.setIfInBounds_toArray, List.set_cons_zero, List.set_cons_succ]
                refine wpAnyH_take (i := 11) (v := ?_) rfl (by kernel_rfl) (by kernel_rfl) (by kernel_rfl) (fun _ _ _ h => h) (Or.inl ⟨by rfl, ?_⟩) hHeld ?_
                rotate_left
                focus (intro wq hq; clear hq; go_simp; try with_reducible rfl)
                simp only [Act.put, List.getElem_toArray, List.getElem_cons_succ, List.getElem_cons_zero, List.setIfInBounds_toArray, List.set_cons_zero, List.set_cons_succ]
                refine wpAnyH_ready (rs := [12]) (by kernel_rfl) (by simp) ?_
                refine AllReadyH.cons rfl (fun K hK => ?_) AllReadyH.nil
                go_simp
                refine (l10After_any p.types at' ab ct p.body.length cb q.op q.x q.y q.n an nn cn a (C a) size kd (A a) (G a) (F2 a) _ (HTB'.out.gr0 (HGU.out.trans0 hHeld)) ((HT3.out.gr hHeld).2 a haL).2.1 ((HT3.out.gr hHeld).2 a haL).1 ((HT3.out.gr hHeld).2 a haL).2.2 HK.out.1 HI.out HN.out HYY.out HST.out (by omega) hs0 hpl).mono ?_
                rintro e w5 ⟨af, cf, rfl, hFr, hg5⟩
                try dsimp only
                refine hK.out _ _ (hHeld.trans0 hg5) (fun hHeld => ?_)
                clear hK K
                try simp only [Act.put, List.getElem_toArray, List.getElem_cons_succ, List.getElem_cons_zero, List.setIfInBounds_toArray, List.set_cons_zero, List.set_cons_succ]
                refine wpAnyH_take (i := 13) (v := ?_) rfl (by kernel_rfl) (by kernel_rfl) (by kernel_rfl) (fun _ _ _ h => h) (Or.inl ⟨by rfl, ?_⟩) hHeld ?_
                rotate_left
                focus (intro wq hq; clear hq; go_simp; try with_reducible rfl)
                simp only [Act.put, List.getElem_toArray, List.getElem_cons_succ, List.getElem_cons_zero, List.setIfInBounds_toArray, List.set_cons_zero, List.set_cons_succ]
                refine wpAnyH_done (by kernel_rfl) ?_ _
                go_wp2_with fail
                go_meet
                exact ⟨af, cf, rfl, hFr, hHeld⟩
--RA>
              case rest =>
                rename World => wx
                obtain ⟨af, cf, rfl, hFr, hgx⟩ := hcut
                have HFR := Lib.hid hFr
                have HGX := Lib.hid (HGU.out.trans0 hgx)
                have HT3X := Lib.hid (HT3.out.gr hgx)
                have hszx := hgx.size
                have hJ0 := HR.out.enterJ HA.out (fun b => HROW.out b)
                have HJ0 := Lib.hid (hJ0.mono (Q' := QN (nextOf L a) 0) (fun k b h _ => by obtain ⟨j', h1, _⟩ := h; omega))
                clear hFr hgx hJ0 q0 q1 d0 d1 d2 d3 d4 h0
                go_wp2_with fail
                go_loopw [12, 15] (fun s i wq => ∃ (c : Bool) (F3 : Nat → Nat → Nat → Bool) (j : Nat), j ≤ nn ∧ s = .bool c ∧ i = .int .i64 j ∧ FwJ (boxL3 L.length p.types.length size) L (fun _ => False) (trkA p.types L val) (tF F) (tF F3) c a (rowB p.types size kd q.op q.x q.y q.n a (F2 a)) (QN (nextOf L a) j) ∧ (∀ i v k, F3 i v k = true → v < p.types.length ∧ k < size) ∧ Tab3 wq (some ⟨bh, oh, none⟩) A C G L.length p.types.length size F3 ∧ FromT wq wA.heap.size p.types.length size af (aftB p.types kd q.op q.x q.y q.n a (F2 a)) ∧ Gr wB wq none ∧ wC.heap.size ≤ wq.heap.size) (fun _ i _ => nn - (intOf i).toNat)
                case atStart => exact ⟨c, F2, 0, Nat.zero_le _, rfl, rfl, HJ0.out, HRG.out, HT3X.out, HFR.out, HGX.out, by omega⟩
                case round =>
                  obtain ⟨c, F3, j, hj, rfl, rfl, hJ, hrg, hT3, hFr, hg, hsz2⟩ := hrel
                  have HJ := Lib.hid hJ
                  have HRG3 := Lib.hid hrg
                  have HT3J := Lib.hid hT3
                  have HFRJ := Lib.hid hFr
                  have HGJ := Lib.hid hg
                  obtain ⟨b2, po2, e2, an2, cn2, -, -, -, -, d4, hin, -⟩ := (HRB.out.gr hg) a haL
                  cases e2
                  rw [← nextOf_get haL, HNQ.out, HNN.out] at d4
                  rw [← nextOf_get haL, HNQ.out] at hin
                  clear hJ hrg hT3 hFr hg
                  by_cases hjn : j < nn
                  · have hjq : j < q.next.length := by rw [HNN.out]; exact hjn
                    obtain ⟨b6, o6, rfl, -, c6⟩ := hin.at (i := j) (by rw [zs_length]; exact hjq)
                    obtain ⟨kk, hkk⟩ : ∃ kk, q.next[j] = kk := ⟨_, rfl⟩
                    have hzk : (zs q.next)[j]'(by rw [zs_length]; exact hjq) = (kk : Int) := by rw [← hkk]; simp [zs]
                    rw [hzk] at c6
                    have HX := Lib.hid (show (nextOf L a)[j]? = some kk by rw [HNQ.out, List.getElem?_eq_getElem hjq, hkk])
                    have HKM := Lib.hid (show kk ∈ nextOf L a by rw [HNQ.out, ← hkk]; exact List.getElem_mem hjq)
                    have hkL : kk < L.length := (HNX.out a haL).2 kk HKM.out
                    obtain ⟨bh2, oh2, e3, h0⟩ := HT3J.out.head hkL
                    cases e3
                    clear hkk hzk hin
                    go_wp2_with fail
                    refine (l10Merge_any (G kk) p.types.length size wA.heap.size (A kk) af (C kk) cf (F3 kk) (aftB p.types kd q.op q.x q.y q.n a (F2 a)) _ (HT3J.out.2 kk hkL).2.1 (HT3J.out.2 kk hkL).1 (HT3J.out.2 kk hkL).2.2 (HS3.out kk hkL).1 (fun g hg => ((HS3.out kk hkL).2 g hg).2.2.1 kk hkL) (fun g hg => by have := HGLT.out kk hkL g hg; omega) HFRJ.out (by omega) (by omega)).mono ?_
                    rintro e w5 ⟨cm, rfl, hR5, hC5, hw5⟩
                    have hF5 := HFRJ.out.wr hw5 (fun k hk => by have := HGLT.out kk hkL k hk; omega)
                    have hg5 : Gr wB w5 none := hw5.gr HGJ.out (fun k hk => ((HS3.out kk hkL).2 k hk).1)
                    have hsz5 : wC.heap.size ≤ w5.heap.size := by rw [hw5.size]; exact hsz2
                    have HF5 := Lib.hid hF5
                    have HG5 := Lib.hid hg5
                    cases cm with
                    | false =>
                      have HT5 := Lib.hid (HT3J.out.wr HS3.out hkL hw5 (F' := F3) (hR5.congr fun v k hv hk => by
                        rw [(HT3J.out.2 kk hkL).1] at hv
                        cases h1 : aftB p.types kd q.op q.x q.y q.n a (F2 a) v k with
                        | false => simp
                        | true => rw [hC5.1 rfl v k hv hk (by omega) h1]; rfl) (fun i _ => rfl))
                      have HN5 := Lib.hid (HJ.out.same (Q' := QN (nextOf L a) (j + 1)) (fun k b hq hr => by
                        rcases QN.step HX.out k b hq with h | h
                        · exact .inl h
                        · subst h
                          unfold rowB at hr
                          simp only [Bool.and_eq_true, decide_eq_true_eq] at hr
                          exact .inr (hC5.1 rfl b.1 b.2 hr.1 hr.2.1 (by omega) hr.2.2)))
                      clear hR5 hC5 hw5 hF5 hg5 h0 c6 d4
                      go_wp2_with fail
                      go_roundw
                      case rel => exact ⟨c, F3, j + 1, by omega, rfl, by go_num, HN5.out, HRG3.out, HT5.out, HF5.out, HG5.out, hsz5⟩
                      case measure => simp [intOf]; omega
                    | true =>
                      have HT5 := Lib.hid (HT3J.out.wr HS3.out hkL hw5 (F' := mrg3 F3 kk (rowB p.types size kd q.op q.x q.y q.n a (F2 a))) (hR5.congr fun v k hv hk => by
                        rw [(HT3J.out.2 kk hkL).1] at hv
                        unfold mrg3 rowB; simp [hv, hk]) (fun i hi => by funext v k; unfold mrg3; rw [if_neg hi]))
                      have HN5 := Lib.hid (show FwJ (boxL3 L.length p.types.length size) L (fun _ => False) (trkA p.types L val) (tF F) (tF (mrg3 F3 kk (rowB p.types size kd q.op q.x q.y q.n a (F2 a)))) true a (rowB p.types size kd q.op q.x q.y q.n a (F2 a)) (QN (nextOf L a) (j + 1)) from by
                        obtain ⟨u, i, hu, hi, h1, h2⟩ := hC5.2 rfl
                        rw [tF_mrg]
                        exact HJ.out.change HA.out haL HKM.out (fun _ h => h) (boxL3_mem hkL hu hi) (show rowB p.types size kd q.op q.x q.y q.n a (F2 a) (u, i) = true by unfold rowB; simp [hu, hi, h1]) h2)
                      have HRG5 := Lib.hid (show ∀ i v k, mrg3 F3 kk (rowB p.types size kd q.op q.x q.y q.n a (F2 a)) i v k = true → v < p.types.length ∧ k < size from fun i v k h => by
                        unfold mrg3 at h
                        split at h
                        · rw [Bool.or_eq_true] at h
                          rcases h with h | h
                          · exact HRG3.out _ _ _ h
                          · unfold rowB at h; simp at h; exact ⟨h.1, h.2.1⟩
                        · exact HRG3.out _ _ _ h)
                      clear hR5 hC5 hw5 hF5 hg5 h0 c6 d4
                      go_wp2_with fail
                      go_roundw
                      case rel => exact ⟨true, _, j + 1, by omega, rfl, by go_num, HN5.out, HRG5.out, HT5.out, HF5.out, HG5.out, hsz5⟩
                      case measure => simp [intOf]; omega
                  · obtain rfl : j = nn := by omega
                    go_wp2_with fail
                    go_roundw
                    case rel => exact ⟨c, F3, a + 1, by omega, rfl, by go_num, HJ.out.exit (fun k hk b _ => QN.exit (by rw [HNQ.out, HNN.out]; exact Nat.le_refl _) k hk b), HRG3.out, HT3J.out, HGJ.out, hsz2⟩
                    case measure => simp [intOf]; omega
            · obtain rfl : a = L.length := by omega
              go_wp2_with fail
              go_roundg (leftG (boxL3 L.length p.types.length size) (tF F2) c)
              case measure => exact HR.out.left
              case rel => exact ⟨c, F2, rfl, rfl, HR.out.done (Nat.le_refl _), HRG.out, HT3.out, HG.out, hsz⟩
end Go.Proofs.Ytadlnjglpigjmaa
