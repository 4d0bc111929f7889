/- Words in an array of six. Walks of regions, RegionOf, Outlives of the program. -/
import Derived.Test.YtpnaeijkllmihaaZ7

import Derived.Test.YtpnaeijkllmihaaF1

import Derived.Test.YtpnaeijkllmihaaN8

import Derived.Deep.WholeRow

namespace Go.Proofs.Ytpnaeijkllmihaa

open Go.RowKit

/-! ### Six words -/

def words (O : Nat → Nat) : Array Value := #[.int .u64 (O 0 : Nat), .int .u64 (O 1 : Nat), .int .u64 (O 2 : Nat), .int .u64 (O 3 : Nat), .int .u64 (O 4 : Nat), .int .u64 (O 5 : Nat)]
theorem words_at (O : Nat → Nat) {v : Nat} (h : v < 6) : (words O)[v]? = some (.int .u64 (O v : Nat)) := by
  match v, h with
  | 0, _ => rfl
  | 1, _ => rfl
  | 2, _ => rfl
  | 3, _ => rfl
  | 4, _ => rfl
  | 5, _ => rfl
theorem words_upd (O : Nat → Nat) {v : Nat} (x : Nat) (h : v < 6) : (words O).setIfInBounds v (.int .u64 (x : Nat)) = words (updW O v x) := by
  match v, h with
  | 0, _ => rfl
  | 1, _ => rfl
  | 2, _ => rfl
  | 3, _ => rfl
  | 4, _ => rfl
  | 5, _ => rfl
def Words (w : World) (g : Nat) (O : Nat → Nat) : Prop := w.heap[g]? = some (.cells (words O) 62 (0, 0))
theorem Words.cell {w : World} {g : Nat} {O : Nat → Nat} (h : Words w g O) {v : Nat} (hv : v < 6) : w.cell? ⟨g, v, none⟩ = some (.int .u64 (O v : Nat)) := by
  rw [cell_of_row w g v _ _ _ h]; exact words_at O hv
theorem Words.free {w : World} {g : Nat} {O : Nat → Nat} (h : Words w g O) (v : Nat) : w.frozen? ⟨g, v, none⟩ = false := by
  unfold Words at h
  simp [World.frozen?, h]
theorem Words.lt {w : World} {g : Nat} {O : Nat → Nat} (h : Words w g O) : g < w.heap.size := lt_of_block h
theorem Words.gr {w w' : World} {g : Nat} {O : Nat → Nat} {row : Option Nat} (h : Words w g O) (hg : Gr w w' row) (hr : row ≠ some g) : Words w' g O := by
  have hlt := h.lt
  unfold Words at *
  rw [hg.block g hlt (fun e => hr e.symm)]; exact h
theorem Words.gr0 {w w' : World} {g : Nat} {O : Nat → Nat} (h : Words w g O) (hg : Gr w w' none) : Words w' g O := h.gr hg (by simp)
theorem Words.set {w : World} {g : Nat} {O : Nat → Nat} (h : Words w g O) {v : Nat} (x : Nat) (hv : v < 6) : Words (w.setCell ⟨g, v, none⟩ (.int .u64 (x : Nat))) g (updW O v x) := by
  unfold Words at *
  rw [← words_upd O x hv]
  exact row_set _ h
theorem Words.congr {w : World} {g : Nat} {O O' : Nat → Nat} (h : Words w g O) (e : ∀ v, v < 6 → O v = O' v) : Words w g O' := by
  unfold Words words at *
  rw [← e 0 (by omega), ← e 1 (by omega), ← e 2 (by omega), ← e 3 (by omega), ← e 4 (by omega), ← e 5 (by omega)]; exact h
def setWords (w : World) (g : Nat) (O : Nat → Nat) : World :=
  (((((w.setCell ⟨g, 0, none⟩ (.int .u64 (O 0 : Nat))).setCell ⟨g, 1, none⟩ (.int .u64 (O 1 : Nat))).setCell ⟨g, 2, none⟩ (.int .u64 (O 2 : Nat))).setCell ⟨g, 3, none⟩ (.int .u64 (O 3 : Nat))).setCell ⟨g, 4, none⟩ (.int .u64 (O 4 : Nat))).setCell ⟨g, 5, none⟩ (.int .u64 (O 5 : Nat))
theorem Words.copy {w : World} {g : Nat} {Z : Nat → Nat} (h : Words w g Z) (O : Nat → Nat) : Words (setWords w g O) g O := by
  refine Words.congr ((((((h.set (v := 0) (O 0) (by omega)).set (v := 1) (O 1) (by omega)).set (v := 2) (O 2) (by omega)).set (v := 3) (O 3) (by omega)).set (v := 4) (O 4) (by omega)).set (v := 5) (O 5) (by omega)) fun v hv => ?_
  match v, hv with
  | 0, _ => rfl
  | 1, _ => rfl
  | 2, _ => rfl
  | 3, _ => rfl
  | 4, _ => rfl
  | 5, _ => rfl
theorem setWords_gr {a w : World} {g : Nat} {row : Option Nat} (h : Gr a w row) (hg : a.heap.size ≤ g) (O : Nat → Nat) : Gr a (setWords w g O) row := by
  unfold setWords
  exact (((((h.setNew hg _).setNew hg _).setNew hg _).setNew hg _).setNew hg _).setNew hg _
theorem Words.load {w : World} {g : Nat} {O : Nat → Nat} (h : Words w g O) : (loadVar 62 ⟨g, 0, none⟩).run Try.prog w = .ok (.agg (words O)) w :=
  run_loadVar_row _ _ 62 62 (words O) (0, 0) _ h Try.underlying62 rfl (by kernel_rfl)
theorem index_words (O : Nat → Nat) {j : Nat} (hj : j < 6) (w : World) : (Instr.index 62 (.agg (words O)) (.int .i64 j)).run Try.prog w = .ok (.int .u64 (O j : Nat)) w := by
  have h1 := words_at O hj
  have hn : (0 : Int) ≤ j ∧ (j : Int) < 6 := by omega
  simp [Instr.index, run_underlying Try.underlying62, asIntOf, hn, go_sem, hj, h1]
theorem results_cell {fn : Func} {p : Tmp} {ty : TypeId} (h : fn.results = #[.cell p ty]) (tmps : Array Value) (P : Program) (w : World) :
    (results fn tmps).run P w = ((asAddr (tmps.getD p undef)).run P w).andThen fun a w₁ => (loadVar ty a).run P w₁ := by
  simp only [results, h]
  simp [Sem.run_bind, Result.andThen]
  try rfl
/-- A word of the block. -/
def wordAt (w : World) (g v : Nat) : Nat := match w.cell? ⟨g, v, none⟩ with | some (.int _ x) => x.toNat | _ => 0
theorem Words.word {w : World} {g : Nat} {O : Nat → Nat} (h : Words w g O) {v : Nat} (hv : v < 6) : wordAt w g v = O v := by
  unfold wordAt; rw [h.cell hv]; simp
theorem Words.sum {w : World} {g : Nat} {O : Nat → Nat} (h : Words w g O) : sumW (wordAt w g) = sumW O := by
  unfold sumW; rw [h.word (v := 0) (by omega), h.word (v := 1) (by omega), h.word (v := 2) (by omega), h.word (v := 3) (by omega), h.word (v := 4) (by omega), h.word (v := 5) (by omega)]
theorem RowsAt.gr {s : Nat} {w w' : World} {row : Option Nat} {D : Nat → Nat → Prop} {L : List (List Value)} {a : Option Addr} (h : RowsAt s w D L a) (hg : Gr w w' row) (hD : ∀ b o, D b o → row ≠ some b) : RowsAt s w' D L a :=
  h.mono (fun _ _ h => h) (fun b o _ _ hd hc => hg.cell hc (hD b o hd))
theorem u64_pow {k : Nat} (hk : k < 64) : IntKind.u64.wrap ((2 : Int) ^ k) = ((2 ^ k : Nat) : Int) := by
  rw [pow_cast]
  have h1 : 2 ^ k < 2 ^ 64 := Nat.pow_lt_pow_right (by omega) hk
  exact wraps_u64 _ (Int.natCast_nonneg _) (by omega)
def boolOf : Value → Bool
  | .bool b => b
  | _ => false
def wMeas (w : World) (g : Nat) (c : Value) : Nat := wLeft (wordAt w g) (boolOf c)
theorem Words.meas {w : World} {g : Nat} {O : Nat → Nat} (h : Words w g O) (c : Bool) : wMeas w g (.bool c) = wLeft O c := by
  unfold wMeas wLeft boolOf; rw [h.sum]

/-! ### The program's regions -/

theorem valid_types {p : Pr} (h : validP p = true) : p.types.length ≤ 6 := by
  unfold validP typesOk at h
  simp only [Bool.and_eq_true, decide_eq_true_eq] at h
  have := h.1.1
  omega
set_option maxRecDepth 100000 in
set_option maxHeartbeats 4000000 in
theorem regions_any (p : Pr) (gb : Nat) (w : World) (hGA : GraphAt w p gb) (hv : validP p = true) :
    Calls Try.prog 59 #[.pointer (some ⟨gb, 0, none⟩)] w fun e w' => ∃ O : Nat → Nat, (∀ v k, (O v).testBit k = regB p v k) ∧ (∀ v, O v < 2 ^ 64) ∧ e = .returned (.agg (words O)) ∧ Gr w w' none := by
  have hGv := hGA
  have HV := Lib.hid hv
  have hpl : p.types.length ≤ 6 := valid_types hv
  have hml : (ptsOf p).length ≤ 64 := by have := ptsOf_le p; omega
  have HOK := Lib.hid (bds_ok p)
  have HBR := Lib.hid (bds_row p)
  have hbo : boundsOf p = bounds p := by unfold boundsOf; rw [if_pos hv]
  have HBO := Lib.hid hbo
  clear hv hbo
  have hgA : Gr w ((w.alloc (.cells (words fun _ => 0) 62)).alloc (.cells (words fun _ => 0) 62)) none := ((Gr.refl _ _).alloc _).alloc _
  have hW0 : Words ((w.alloc (.cells (words fun _ => 0) 62)).alloc (.cells (words fun _ => 0) 62)) w.heap.size (fun _ => 0) := heap2_0 _ _ _
  have hW1 : Words ((w.alloc (.cells (words fun _ => 0) 62)).alloc (.cells (words fun _ => 0) 62)) (w.heap.size + 1) (fun _ => 0) := heap2_1 _ _ _
  go_enter Try.func59, Try.ntmps59
  go_wp2_with fail
  obtain ⟨wA, hwA⟩ : ∃ wA : World, wA = (w.alloc (.cells (words fun _ => 0) 62)).alloc (.cells (words fun _ => 0) 62) := ⟨_, rfl⟩
  have ewA : (w.alloc (.cells #[.int .u64 0, .int .u64 0, .int .u64 0, .int .u64 0, .int .u64 0, .int .u64 0] 62)).alloc (.cells #[.int .u64 0, .int .u64 0, .int .u64 0, .int .u64 0, .int .u64 0, .int .u64 0] 62) = wA := hwA.symm
  rw [← hwA] at hgA hW0 hW1
  have HGA := Lib.hid hgA
  have HW0 := Lib.hid hW0
  have HGP := Lib.hid hGA
  clear hGA hGv hW0 hgA hwA
  go_loopw [4] (fun s wr => ∃ (c : Bool) (O : Nat → Nat), s = .bool c ∧ WAfter p O c ∧ Words wr (w.heap.size + 1) O ∧ Gr wA wr (some (w.heap.size + 1))) (fun s wr => wMeas wr (w.heap.size + 1) s)
  case atStart => exact ⟨true, fun _ => 0, rfl, WAfter.start p, by rw [ewA]; exact hW1, by rw [ewA]; exact Gr.refl _ _⟩
  case round =>
    obtain ⟨c, O, rfl, hA, hW, hg⟩ := hrel
    cases c with
    | false =>
      have h0 := hW.cell (v := 0) (by omega)
      have h1 := hW.cell (v := 1) (by omega)
      have h2 := hW.cell (v := 2) (by omega)
      have h3 := hW.cell (v := 3) (by omega)
      have h4 := hW.cell (v := 4) (by omega)
      have h5 := hW.cell (v := 5) (by omega)
      have hW0 := HW0.out.gr hg (by simp)
      have hf := hW0.free
      have z0 := hW0.cell (v := 0) (by omega)
      have z1 := hW0.cell (v := 1) (by omega)
      have z2 := hW0.cell (v := 2) (by omega)
      have z3 := hW0.cell (v := 3) (by omega)
      have z4 := hW0.cell (v := 4) (by omega)
      have z5 := hW0.cell (v := 5) (by omega)
      have HWR := Lib.hid hW0
      clear hW hW0
      have HA := Lib.hid hA
      have HG := Lib.hid hg
      clear hA hg
      go_wp2_with fail
      refine bodyPost_ret (v := .agg (words O)) ?_ rfl ⟨O, HA.out.2.2 rfl, HA.out.2.1, rfl, setWords_gr (HGA.out.trans HG.out (fun r e => .inr (by cases e; omega))) (Nat.le_refl _) O⟩
      rw [results_cell rfl]
      have := (HWR.out.copy O).load
      unfold setWords at this
      simp [asAddr, Result.andThen, this]
    | true =>
      have hgw : Gr w wr none := HGA.out.trans hg (fun r e => .inr (by cases e; omega))
      have hWr := Lib.hid hW
      have hglt := hW.lt
      have HA := Lib.hid hA
      have HG := Lib.hid hg
      clear hA hW hg
      go_wp2_with fail
      refine (bounds_any p gb _ (HGP.out.gr hgw) HV.out).mono ?_
      rw [← HBO.out]
      rintro e w3 ⟨a3, c3, rfl, hI, hnb, -, hg3⟩
      have hlen : (boundsOf p).length ≤ 1048576 := boundsOf_len p
      have HBR2 := Lib.hid HBR.out
      obtain ⟨L, hL⟩ : ∃ L, boundsOf p = L := ⟨_, rfl⟩
      rw [hL] at hI hlen ⊢ HBR2
      have HI := Lib.hid hI.block
      have HNB := Lib.hid hnb
      have HWi := Lib.hid (hWr.out.gr0 hg3)
      have HG3 := Lib.hid hg3
      clear hL hI hnb hgw hg3
      go_wp2_with fail
      go_loopw [4, 12] (fun s i wr2 => ∃ (c : Bool) (O2 : Nat → Nat) (k : Nat), k ≤ L.length ∧ s = .bool c ∧ i = .int .i64 k ∧ WRound (bds p) O O2 c k ∧ Words wr2 (w.heap.size + 1) O2 ∧ Gr w3 wr2 (some (w.heap.size + 1))) (fun _ i _ => L.length - (intOf i).toNat)
      case atStart => exact ⟨false, O, 0, Nat.zero_le _, rfl, rfl, WRound.start HA.out.1 HA.out.2.1, HWi.out, Gr.refl _ _⟩
      case round =>
        obtain ⟨c, O2, k, hk, rfl, rfl, hR, hW2, hg2⟩ := hrel
        by_cases hlt : k < L.length
        · have hkb : k < (bds p).length := by have := congrArg List.length HBR2.out; rw [List.length_map] at this; omega
          have hrow : L[k] = (bds p)[k].row := by simp [HBR2.out]
          have hok := HOK.out _ (List.getElem_mem hkb)
          have hrd := (HI.out.gr hg2 (by intro b o hb e; cases e; have := HNB.out _ hb; omega)) k hlt
          obtain ⟨b1, o1, rfl, -, h1⟩ := hrd
          rw [hrow] at h1
          have HR := Lib.hid hR
          have HW2 := Lib.hid hW2
          have HG2 := Lib.hid hg2
          have hch := fun (h : wset O2 (bds p)[k] ≠ O2 (bds p)[k].var) => hR.change hkb hok hpl hml h
          have hsm := fun (h : wset O2 (bds p)[k] = O2 (bds p)[k].var) => hR.same hkb h
          have hfree := hW2.free
          generalize (bds p)[k] = b at hok h1 hch hsm
          have HCH := Lib.hid hch
          have HSM := Lib.hid hsm
          clear hrow hR hch hsm hg2
          have hfin : ∀ (v W : Nat) (o : Obj), v < 6 → wset O2 b = W → b.var = v → (W = O2 v → WRound (bds p) O O2 c (k + 1)) ∧ (W ≠ O2 v → WRound (bds p) O (updW O2 v W) true (k + 1) ∧ Words ((wr.alloc o).setCell ⟨w.heap.size + 1, v, none⟩ (.int .u64 W)) (w.heap.size + 1) (updW O2 v W)) := fun v W o hv e1 e2 => by
            subst e1; subst e2
            exact ⟨HSM.out, fun h => ⟨HCH.out h, (HW2.out.gr0 ((Gr.refl _ _).alloc o)).set _ hv⟩⟩
          cases b with
          | loan v kk =>
            have i0 := h1 0 _ rfl
            have i1 := h1 1 _ rfl
            have i2 := h1 2 _ rfl
            simp only [Nat.add_zero] at i0
            have hv6 : v < 6 := by have := hok.1; omega
            have hk6 : kk < 64 := by have := hok.2; omega
            have cB : ∀ o, (wr.alloc o).cell? ⟨w.heap.size + 1, v, none⟩ = some (.int .u64 (O2 v : Nat)) := fun o => (hW2.gr0 ((Gr.refl _ _).alloc o)).cell hv6
            have hfB : ∀ o, (wr.alloc o).frozen? ⟨w.heap.size + 1, v, none⟩ = false := fun o => (hW2.gr0 ((Gr.refl _ _).alloc o)).free v
            have hor : bits BinOp.or .u64 (O2 v : Nat) (IntKind.u64.wrap (2 ^ kk)) = ((wset O2 (.loan v kk) : Nat) : Int) := by
              rw [u64_pow hk6]; exact u64_or (HR.out.2.1 v) (Nat.pow_lt_pow_right (by omega) hk6)
            obtain ⟨W, hWW⟩ : ∃ W, wset O2 (.loan v kk) = W := ⟨_, rfl⟩
            rw [hWW] at hor
            have HF := Lib.hid fun o => hfin v W o hv6 hWW rfl
            clear h1 hW2 hfin hWW hfree HCH HSM hok
            by_cases he : W = O2 v
            · have hc : ((W : Int) != ((O2 v : Nat) : Int)) = false := by simp [he]
              have HE := Lib.hid he
              clear he
              go_wp2_with fail
              go_roundw
              case rel => exact ⟨c, O2, k + 1, by omega, rfl, by go_num, (HF.out (.cells #[] 0)).1 HE.out, HW2.out.gr0 ((Gr.refl _ _).alloc _), HG2.out.alloc _⟩
              case measure => simp [intOf]; omega
            · have hc : ((W : Int) != ((O2 v : Nat) : Int)) = true := by simp; omega
              have HE := Lib.hid he
              clear he
              go_wp2_with fail
              go_roundw
              case rel => exact ⟨true, updW O2 v W, k + 1, by omega, rfl, by go_num, ((HF.out (.cells #[] 0)).2 HE.out).1, ((HF.out _).2 HE.out).2, (HG2.out.alloc _).setOwn rfl _⟩
              case measure => simp [intOf]; omega
          | frm v u =>
            have i0 := h1 0 _ rfl
            have i1 := h1 1 _ rfl
            have i2 := h1 2 _ rfl
            simp only [Nat.add_zero] at i0
            have hv6 : v < 6 := by have := hok.1; omega
            have hu6 : u < 6 := by have := hok.2; omega
            have cB : ∀ o, (wr.alloc o).cell? ⟨w.heap.size + 1, v, none⟩ = some (.int .u64 (O2 v : Nat)) := fun o => (hW2.gr0 ((Gr.refl _ _).alloc o)).cell hv6
            have cU : ∀ o, (wr.alloc o).cell? ⟨w.heap.size + 1, u, none⟩ = some (.int .u64 (O2 u : Nat)) := fun o => (hW2.gr0 ((Gr.refl _ _).alloc o)).cell hu6
            have hfB : ∀ o, (wr.alloc o).frozen? ⟨w.heap.size + 1, v, none⟩ = false := fun o => (hW2.gr0 ((Gr.refl _ _).alloc o)).free v
            have hor : bits BinOp.or .u64 (O2 v : Nat) (O2 u : Nat) = ((wset O2 (.frm v u) : Nat) : Int) := u64_or (HR.out.2.1 v) (HR.out.2.1 u)
            obtain ⟨W, hWW⟩ : ∃ W, wset O2 (.frm v u) = W := ⟨_, rfl⟩
            rw [hWW] at hor
            have HF := Lib.hid fun o => hfin v W o hv6 hWW rfl
            clear h1 hW2 hfin hWW hfree HCH HSM hok
            by_cases he : W = O2 v
            · have hc : ((W : Int) != ((O2 v : Nat) : Int)) = false := by simp [he]
              have HE := Lib.hid he
              clear he
              go_wp2_with fail
              go_roundw
              case rel => exact ⟨c, O2, k + 1, by omega, rfl, by go_num, (HF.out (.cells #[] 0)).1 HE.out, HW2.out.gr0 ((Gr.refl _ _).alloc _), HG2.out.alloc _⟩
              case measure => simp [intOf]; omega
            · have hc : ((W : Int) != ((O2 v : Nat) : Int)) = true := by simp; omega
              have HE := Lib.hid he
              clear he
              go_wp2_with fail
              go_roundw
              case rel => exact ⟨true, updW O2 v W, k + 1, by omega, rfl, by go_num, ((HF.out (.cells #[] 0)).2 HE.out).1, ((HF.out _).2 HE.out).2, (HG2.out.alloc _).setOwn rfl _⟩
              case measure => simp [intOf]; omega
        · have hlb : (bds p).length = L.length := by have := congrArg List.length HBR2.out; rw [List.length_map] at this; omega
          have HR := Lib.hid hR
          have HW2 := Lib.hid hW2
          have HG2 := Lib.hid hg2
          clear hR hW2 hg2
          go_wp2_with fail
          go_roundw
          case rel => exact ⟨c, O2, rfl, HR.out.done (by omega), HW2.out, (HG.out.trans0 HG3.out).trans HG2.out (fun r e => .inl e)⟩
          case measure => rw [HW2.out.meas, hWr.out.meas]; exact HR.out.left
theorem HandI.aft {l : List Int} {w0 w w' : World} {e : Ending} (h : HandI l w e w') (hg : Gr w0 w none) : HandI l w0 e w' := by
  obtain ⟨a, c, he, h1, h2, h3, h4⟩ := h
  exact ⟨a, c, he, h1, fun g hgo => ⟨Nat.le_trans hg.size (h2 g hgo).1, (h2 g hgo).2⟩, h3, hg.trans0 h4⟩
theorem within_var (p : Pr) (v : Int) : within v 0 ((p.types.length : Int) - 1) = (decide (0 ≤ v) && decide (v < p.types.length)) := by
  unfold within
  congr 1
  apply decide_eq_decide.2
  omega
theorem region_bits {p : Pr} {j : Nat} {x : Nat} (hv : validP p = true) (h : j < p.types.length) (hx : ∀ k, x.testBit k = regB p j k) (hm : (ptsOf p).length ≤ 64) : regionOf p j = coll x.testBit 64 := by
  rw [regionOf_in hv h, ← coll_up (F := regB p j) (fun k hk => regB_hi hk) 64 hm]
  exact coll_congr fun k _ => (hx k).symm
set_option maxRecDepth 100000 in
set_option maxHeartbeats 1000000 in
theorem implRegionOf_any (p : Pr) (v : Int) (at' ab : Option Addr) (ct cb : Nat) (w : World) (hT : InAt w Any p.types at') (hB : SlAt w Any p.body ab) (hs : p.types.length ≤ 1048576) (hc : p.body.length ≤ 1048576) :
    Calls Try.prog 20 #[.agg #[.slice at' p.types.length ct, .slice ab p.body.length cb], .int .i64 v] w (HandI (regionOf p v) w) := by
  have hg1 : ∀ o, Gr w (w.alloc o) none := fun o => (Gr.refl _ _).alloc _
  go_enter Try.func20, Try.ntmps20
  go_wp2_with fail
  refine (graphOf_any p [] at' ab none ct cb 0 _ (hT.gr0 (hg1 _)) (hB.gr0 (hg1 _)) (by simp [InAt]) hs hc (by simp)).mono ?_
  rintro e w1 ⟨hg, hif⟩
  have hG1 : Gr w w1 none := (hg1 _).trans0 hg
  clear hg
  rw [graphOk_none] at hif
  cases hv : validP p with
  | false =>
    rw [hv, if_neg (by simp)] at hif
    subst hif
    have HO := Lib.hid (regionOf_out (p := p) (v := v) (by unfold isVar; rw [hv]; rfl))
    clear hv
    go_wp2_with fail
    go_ret
    rw [HO.out]
    exact HandI.nil _ _ hG1
  | true =>
    rw [hv, if_pos rfl] at hif
    obtain ⟨gb, rfl, hgb, hGA⟩ := hif
    have hm : (ptsOf p).length ≤ 64 := by have := ptsOf_le p; omega
    have h6 := valid_types hv
    have HV := Lib.hid hv
    clear hv
    go_wp2_with fail
    refine (isVar_any p gb v _ hGA hs).mono ?_
    rw [within_var]
    rintro e w2 ⟨rfl, rfl⟩
    cases hw : (decide (0 ≤ v) && decide (v < p.types.length)) with
    | false =>
      have HO := Lib.hid (regionOf_out (p := p) (v := v) (by unfold isVar; rw [hw, Bool.and_false]))
      clear hw
      go_wp2_with fail
      go_ret
      rw [HO.out]
      exact HandI.nil _ _ hG1
    | true =>
      simp only [Bool.and_eq_true, decide_eq_true_eq] at hw
      obtain ⟨j, rfl⟩ := Int.eq_ofNat_of_zero_le hw.1
      have hj : j < p.types.length := by omega
      have hj6 : j < 6 := by omega
      clear hw
      go_wp2_with fail
      refine (regions_any p gb _ hGA HV.out).mono ?_
      rintro e w3 ⟨O, hO, hlt, rfl, hg3⟩
      have hat := words_at O hj6
      have hsz : (words O).size = 6 := rfl
      have HO := Lib.hid (region_bits HV.out hj (hO j) hm)
      have HL := Lib.hid (hlt j)
      clear hO hlt
      go_wp2_with fail
      have hix : (Instr.index 62 (.agg (words O)) (.int .i64 j)).run Try.prog w3 = .ok (.int .u64 (O j : Nat)) w3 := index_words O hj6 w3
      clear hat hsz
      rw [hix]
      go_wp2_with fail
      refine (loanBits_any (O j) _ HL.out).mono ?_
      rw [← HO.out]
      intro e w4 hh
      have hhh := HandI.aft hh (hG1.trans0 hg3)
      obtain ⟨a4, c4, rfl, -⟩ := hh
      have HH := Lib.hid hhh
      clear hhh
      go_wp2_with fail
      go_ret
      exact HH.out
set_option maxRecDepth 100000 in
set_option maxHeartbeats 1000000 in
theorem implOutlives_any (p : Pr) (v u : Int) (at' ab : Option Addr) (ct cb : Nat) (w : World) (hT : InAt w Any p.types at') (hB : SlAt w Any p.body ab) (hs : p.types.length ≤ 1048576) (hc : p.body.length ≤ 1048576) :
    Calls Try.prog 17 #[.agg #[.slice at' p.types.length ct, .slice ab p.body.length cb], .int .i64 v, .int .i64 u] w fun e w' => e = .returned (.bool (outlives p v u)) ∧ Gr w w' none := by
  have hg1 : ∀ o, Gr w (w.alloc o) none := fun o => (Gr.refl _ _).alloc _
  go_enter Try.func17, Try.ntmps17
  go_wp2_with fail
  refine (graphOf_any p [] at' ab none ct cb 0 _ (hT.gr0 (hg1 _)) (hB.gr0 (hg1 _)) (by simp [InAt]) hs hc (by simp)).mono ?_
  rintro e w1 ⟨hg, hif⟩
  have hG1 : Gr w w1 none := (hg1 _).trans0 hg
  clear hg
  rw [graphOk_none] at hif
  cases hv : validP p with
  | false =>
    rw [hv, if_neg (by simp)] at hif
    subst hif
    have HO := Lib.hid (outlives_out (p := p) (v := v) (w := u) (.inl (by unfold isVar; rw [hv]; rfl)))
    clear hv
    go_wp2_with fail
    go_ret
    rw [HO.out]
    exact ⟨rfl, hG1⟩
  | true =>
    rw [hv, if_pos rfl] at hif
    obtain ⟨gb, rfl, hgb, hGA⟩ := hif
    have h6 := valid_types hv
    have HV := Lib.hid hv
    clear hv
    go_wp2_with fail
    refine (isVar_any p gb v _ hGA hs).mono ?_
    rw [within_var]
    rintro e w2 ⟨rfl, rfl⟩
    cases hw : (decide (0 ≤ v) && decide (v < p.types.length)) with
    | false =>
      have HO := Lib.hid (outlives_out (p := p) (v := v) (w := u) (.inl (by unfold isVar; rw [hw, Bool.and_false])))
      clear hw
      go_wp2_with fail
      go_ret
      rw [HO.out]
      exact ⟨rfl, hG1⟩
    | true =>
      simp only [Bool.and_eq_true, decide_eq_true_eq] at hw
      obtain ⟨i, rfl⟩ := Int.eq_ofNat_of_zero_le hw.1
      have hi : i < p.types.length := by omega
      have hi6 : i < 6 := by omega
      clear hw
      go_wp2_with fail
      refine (isVar_any p gb u _ hGA hs).mono ?_
      rw [within_var]
      rintro e w2 ⟨rfl, rfl⟩
      cases hw : (decide (0 ≤ u) && decide (u < p.types.length)) with
      | false =>
        have HO := Lib.hid (outlives_out (p := p) (v := i) (w := u) (.inr (by unfold isVar; rw [hw, Bool.and_false])))
        clear hw
        go_wp2_with fail
        go_ret
        rw [HO.out]
        exact ⟨rfl, hG1⟩
      | true =>
        simp only [Bool.and_eq_true, decide_eq_true_eq] at hw
        obtain ⟨j, rfl⟩ := Int.eq_ofNat_of_zero_le hw.1
        have hj : j < p.types.length := by omega
        have hj6 : j < 6 := by omega
        clear hw
        go_wp2_with fail
        refine (regions_any p gb _ hGA HV.out).mono ?_
        rintro e w3 ⟨O, hO, hlt, rfl, hg3⟩
        have hWn : Words (w3.alloc (.cells (words O) 62)) w3.heap.size O := heap1_0 _ _
        have ci := hWn.cell hi6
        have cj := hWn.cell hj6
        have hand : bits BinOp.andNot .u64 (O j : Nat) (O i : Nat) = (ndiff (O j) (O i) : Int) := u64_andNot (hlt j)
        have hout : (((ndiff (O j) (O i) : Nat) : Int) == 0) = outlives p i j := by
          have h1 := outlives_in HV.out hi hj
          have h2 := word_sub (hO j) (hO i)
          rw [Bool.eq_iff_iff, h1, ← h2, beq_iff_eq]
          omega
        have HO := Lib.hid hout
        unfold words at ci cj ⊢
        clear hO hlt hWn hout
        go_wp2_with fail
        go_region
        all_goals
          go_wp2_with fail
          go_ret
          exact ⟨by rw [HO.out]; rfl, ((hG1.trans0 hg3).alloc _).drew⟩
end Go.Proofs.Ytpnaeijkllmihaa
