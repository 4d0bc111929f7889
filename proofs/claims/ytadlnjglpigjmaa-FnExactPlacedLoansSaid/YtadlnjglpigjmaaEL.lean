/- From which loans values come: plain laws, and the walk of cameFrom of the program. -/
import Derived.Test.YtadlnjglpigjmaaEG

import Derived.Test.YtadlnjglpigjmaaDI

import Derived.Deep.LoopGhost

import Derived.Deep.RegionHeld3

import Derived.Deep.DeepCutAuto

import Derived.BigRegion

namespace Go.Proofs.Ytadlnjglpigjmaa

open Go.RowKit

/-- Is a point a loan; does the value that it sets come from where the one of its Y comes from? -/
def lnB (L : List Pt) (i : Nat) : Bool := (ptAt L i).op == 4 || (ptAt L i).op == 5
def cbB (T : List Int) (L : List Pt) (i : Nat) : Bool := (lnB L i && isRef (T.getD (ptAt L i).y.toNat 0)) || (ptAt L i).op == 3
def loanV (T : List Int) (L : List Pt) (i : Nat) (Y : Nat × Nat → Prop) (k : Nat) : Prop := (lnB L i = true ∧ k = i) ∨ (cbB T L i = true ∧ Y ((ptAt L i).y.toNat, k))
theorem loanV_mono (T : List Int) (L : List Pt) : MonoV (loanV T L) := by
  rintro i Y Z h k (hk | ⟨ho, hy⟩)
  · exact .inl hk
  · exact .inr ⟨ho, h _ hy⟩
/-- What cameFrom hands back. -/
def CameF (p : Pr) (i : Nat) (O : Nat → Nat) (w : World) (e : Ending) (w' : World) : Prop :=
  ∃ O3 : Nat → Nat, e = .returned (.agg (words O3)) ∧ (∀ v, O3 v < 2 ^ 64) ∧ (∀ b, rowW O3 b = true ↔ trkA p.types (pts p) (loanV p.types (pts p)) i (fun b => (O b.1).testBit b.2 = true) b) ∧ Gr w w' none
theorem pt_y45 {p : Pr} (hv : validP p = true) {k : Nat} (hk : k < (pts p).length) {q : Pt} (hq : ptAt (pts p) k = q) : q.op = 3 ∨ q.op = 4 ∨ q.op = 5 → ∃ j : Nat, q.y = j ∧ j < p.types.length := by
  have h := pt_ok hv hk
  rw [← ptAt_get hk, hq] at h
  intro ho
  rcases h with h | h | h | h
  · omega
  · omega
  · omega
  · obtain ⟨_, y, _, hy, _, hl⟩ := simple_xy h (by omega)
    exact ⟨y, hy, hl⟩
set_option maxRecDepth 100000 in
set_option maxHeartbeats 8000000 in
theorem cameFrom_any (p : Pr) (gb i : Nat) (O : Nat → Nat) (w : World) (hGA : GraphAt w p gb) (hv : validP p = true) (hi : i < (pts p).length) (hO : ∀ v, O v < 2 ^ 64) (hO6 : ∀ v, 6 ≤ v → O v = 0) :
    Calls Try.prog 118 #[.pointer (some ⟨gb, 0, none⟩), .int .i64 i, .agg (words O)] w (CameF p i O w) := by
  have hp : p.types.length ≤ 6 := valid_types hv
  have hl : (pts p).length ≤ 61 := pts_len hv
  have hst := set_in hv hi
  have HGP := Lib.hid hGA
  obtain ⟨L, a3, n3, a4, n4, al, cl, hL, d0, d1, d2, hr1, hr2, hr3⟩ := hGA
  have hiL : i < L.length := by rw [hL]; exact hi
  obtain ⟨b, po, rfl, an, cn, c0, c1, c2, c3, c4, -, -⟩ := hr3 i hiL
  obtain ⟨q, eq⟩ : ∃ q, L[i] = q := ⟨_, rfl⟩
  rw [eq] at c0 c1 c2 c3 c4
  have hpa : ptAt (pts p) i = q := by rw [← hL]; exact (ptAt_get hiL).trans eq
  rw [← ptAt_get hi, hpa] at hst
  have HPA := Lib.hid hpa
  have HY := Lib.hid (pt_y45 hv hi hpa)
  obtain ⟨nn, hnn⟩ : ∃ nn, q.next.length = nn := ⟨_, rfl⟩
  rw [hnn] at c4
  have HO := Lib.hid hO
  have HO6 := Lib.hid hO6
  have HT := Lib.hid hr1
  have HD0 := Lib.hid d0
  obtain ⟨n, hn⟩ : ∃ n, L.length = n := ⟨_, rfl⟩
  have hin : i < n := by omega
  have hn61 : n ≤ 61 := by rw [← hn, hL]; exact hl
  rw [hn] at d2
  have hgA : Gr w ((w.alloc (.cells (words O) 82)).alloc (.cells (words fun _ => 0) 82)) none := ((Gr.refl _ _).alloc _).alloc _
  have hW0 : Words ((w.alloc (.cells (words O) 82)).alloc (.cells (words fun _ => 0) 82)) w.heap.size O := heap2_0 _ _ _
  have hW1 : Words ((w.alloc (.cells (words O) 82)).alloc (.cells (words fun _ => 0) 82)) (w.heap.size + 1) (fun _ => 0) := heap2_1 _ _ _
  clear hL hr1 hr2 hr3 eq hpa hnn hO hO6 d0 d1 hn hiL hv
  go_enter Try.func118, Try.ntmps118
  go_upto_region 1 with fail
  obtain ⟨wA, hwA⟩ : ∃ wA : World, wA = (w.alloc (.cells (words O) 82)).alloc (.cells (words fun _ => 0) 82) := ⟨_, rfl⟩
  have ewA : (w.alloc (.cells (words O) 82)).alloc (.cells #[.int .u64 0, .int .u64 0, .int .u64 0, .int .u64 0, .int .u64 0, .int .u64 0] 82) = wA := hwA.symm
  rw [ewA]
  rw [← hwA] at hgA hW0 hW1
  have hszA : wA.heap.size = w.heap.size + 1 + 1 := by rw [hwA]; simp
  have HSZA := Lib.hid hszA
  have HGA := Lib.hid hgA
  have HW0 := Lib.hid hW0
  have HW1 := Lib.hid hW1
  replace d2 := hgA.cell d2 (by simp)
  replace c0 := hgA.cell c0 (by simp)
  replace c1 := hgA.cell c1 (by simp)
  replace c2 := hgA.cell c2 (by simp)
  replace c3 := hgA.cell c3 (by simp)
  replace c4 := hgA.cell c4 (by simp)
  clear hwA ewA hgA hW0 hW1 hszA
  go_upto_region 2 with fail
  have hE := heap1_0 wA (.cells #[.int .i64 q.op, .int .i64 q.x, .int .i64 q.y, .int .i64 q.n, .slice an nn cn] 67)
  obtain ⟨wB, hwB⟩ : ∃ wB, wB = wA.alloc (.cells #[.int .i64 q.op, .int .i64 q.x, .int .i64 q.y, .int .i64 q.n, .slice an nn cn] 67) := ⟨_, rfl⟩
  have hgB : Gr wA wB none := by rw [hwB]; exact (Gr.refl _ _).alloc _
  have HSZB := Lib.hid (show wB.heap.size = wA.heap.size + 1 by rw [hwB]; simp)
  rw [← hwB] at hE ⊢
  have HGB := Lib.hid hgB
  have HE := Lib.hid hE
  have f0 := (HW0.out.gr0 hgB).cell (v := 0) (by omega)
  have f1 := (HW0.out.gr0 hgB).cell (v := 1) (by omega)
  have f2 := (HW0.out.gr0 hgB).cell (v := 2) (by omega)
  have f3 := (HW0.out.gr0 hgB).cell (v := 3) (by omega)
  have f4 := (HW0.out.gr0 hgB).cell (v := 4) (by omega)
  have f5 := (HW0.out.gr0 hgB).cell (v := 5) (by omega)
  clear hwB hE hgB c0 c1 c2 c3 c4 d2
  go_upto_region 3 with fail
  have hWC : Words (wB.alloc (.cells #[.int .u64 (O 0 : Nat), .int .u64 (O 1 : Nat), .int .u64 (O 2 : Nat), .int .u64 (O 3 : Nat), .int .u64 (O 4 : Nat), .int .u64 (O 5 : Nat)] 82)) wB.heap.size O := heap1_0 _ _
  obtain ⟨wC, hwC⟩ : ∃ wC, wC = wB.alloc (.cells #[.int .u64 (O 0 : Nat), .int .u64 (O 1 : Nat), .int .u64 (O 2 : Nat), .int .u64 (O 3 : Nat), .int .u64 (O 4 : Nat), .int .u64 (O 5 : Nat)] 82) := ⟨_, rfl⟩
  have hgC : Gr wB wC none := by rw [hwC]; exact (Gr.refl _ _).alloc _
  rw [← hwC] at hWC ⊢
  have HGC := Lib.hid hgC
  have HWC := Lib.hid hWC
  have HGW := Lib.hid (show Gr w wC none from HGA.out.trans0 (HGB.out.trans0 hgC))
  have x0 : wC.cell? ⟨wA.heap.size, 0, none⟩ = some (.int .i64 q.op) := hgC.cell (cell_of_row _ _ _ _ _ _ HE.out) (by simp)
  have x1 : wC.cell? ⟨wA.heap.size, 1, none⟩ = some (.int .i64 q.x) := hgC.cell (cell_of_row _ _ _ _ _ _ HE.out) (by simp)
  have x2 : wC.cell? ⟨wA.heap.size, 2, none⟩ = some (.int .i64 q.y) := hgC.cell (cell_of_row _ _ _ _ _ _ HE.out) (by simp)
  have x3 : wC.cell? ⟨wA.heap.size, 3, none⟩ = some (.int .i64 q.n) := hgC.cell (cell_of_row _ _ _ _ _ _ HE.out) (by simp)
  have x4 : wC.cell? ⟨wA.heap.size, 4, none⟩ = some (.slice an nn cn) := hgC.cell (cell_of_row _ _ _ _ _ _ HE.out) (by simp)
  have HX0 := Lib.hid x0
  have HX1 := Lib.hid x1
  have HX2 := Lib.hid x2
  have HX3 := Lib.hid x3
  have HX4 := Lib.hid x4
  have HF0 := Lib.hid (HW0.out.gr0 (HGB.out.trans0 hgC))
  have HZ0 := Lib.hid (HW1.out.gr0 (HGB.out.trans0 hgC))
  clear hwC hWC hgC f0 f1 f2 f3 f4 f5
  go_wp2_with fail
  refine (taken_any p gb q.op q.x q.y q.n (.slice an nn cn) _ (HGP.out.gr HGW.out) hp).mono ?_
  rintro e w1 ⟨T1, rfl, hT1, hT6, hg1⟩
  have HT1 := Lib.hid hT1
  have HG1 := Lib.hid hg1
  clear hT1 hg1 x0 x1 x2 x3 x4
  go_wp2_with fail
  refine (bits_any T1 _ hT6).mono ?_
  obtain ⟨lt, hlt⟩ : ∃ lt, coll T1.testBit 6 = lt := ⟨_, rfl⟩
  have HLT := Lib.hid (show ∀ v : Nat, ((v : Int) ∈ lt ↔ v < 6 ∧ T1.testBit v = true) from fun v => by rw [← hlt]; exact mem_coll_nat)
  have HLT2 := Lib.hid (show ∀ x ∈ lt, ∃ v : Nat, v < 6 ∧ x = v from fun x hx => by
    rw [← hlt] at hx
    obtain ⟨k, hk, _, e⟩ := mem_coll.1 hx
    exact ⟨k, hk, e⟩)
  have hltl : lt.length ≤ 6 := by rw [← hlt]; exact coll_len _ _
  rw [hlt]
  rintro e w2 ⟨at2, ct2, rfl, hIT, hIB, -, hg2⟩
  have HIT := Lib.hid hIT.block
  have HIB := Lib.hid hIB
  have hszw : wB.heap.size < w1.heap.size := (HWC.out.gr0 HG1.out).lt
  have HSZW := Lib.hid hszw
  have HG2 := Lib.hid (HG1.out.trans0 hg2)
  have HW2 := Lib.hid (HWC.out.gr0 (HG1.out.trans0 hg2))
  clear hIT hIB hlt hg2 hszw
  go_wp2_with fail
  go_loopw [25] (fun s wq => ∃ k : Nat, k ≤ lt.length ∧ s = .int .i64 k ∧ Words wq wB.heap.size (fun v => if (v : Int) ∈ lt.take k then 0 else O v) ∧ Gr w2 wq (some wB.heap.size)) (fun s _ => lt.length - (intOf s).toNat)
  case atStart => exact ⟨0, Nat.zero_le _, rfl, HW2.out.congr (fun v _ => by simp), Gr.refl _ _⟩
  case round =>
    obtain ⟨k, hk, rfl, hWk, hgk⟩ := hrel
    have HWK := Lib.hid hWk
    have HGK := Lib.hid hgk
    by_cases hklt : k < lt.length
    · obtain ⟨b5, o5, rfl, -, c5⟩ := (HIT.out.gr hgk (by intro b o hb e; cases e; have := (HIB.out _ hb).1; have := HSZW.out; omega)).at hklt
      obtain ⟨j, hj6, hj⟩ := HLT2.out _ (List.getElem_mem hklt)
      rw [hj] at c5
      have HJ := Lib.hid hj
      have hcj := hWk.cell hj6
      have hfj := hWk.free j
      have HN := Lib.hid ((hWk.set 0 hj6).congr (fun v _ => zero_step hklt hj v))
      obtain ⟨zz, hzz⟩ : ∃ zz, (if ((j : Nat) : Int) ∈ lt.take k then 0 else O j) = zz := ⟨_, rfl⟩
      rw [hzz] at hcj
      clear hWk hgk hj hzz
      go_wp2_with fail
      go_roundw
      case rel => exact ⟨k + 1, by omega, by go_num, HN.out, HGK.out.setOwn rfl _⟩
      case measure => simp [intOf]; omega
    · obtain rfl : k = lt.length := by omega
      rename World => wK
      have hWt : Words wK wB.heap.size (fun v => if T1.testBit v = true then 0 else O v) := hWk.congr fun v hv => by
        rw [List.take_of_length_le (Nat.le_refl _)]
        have := HLT.out v
        by_cases e : T1.testBit v = true
        · rw [if_pos e, if_pos (this.2 ⟨hv, e⟩)]
        · rw [if_neg e, if_neg (fun h => e (this.1 h).2)]
      have HWT := Lib.hid hWt
      have hCK : Gr wC wK (some wB.heap.size) := HG2.out.weaken.trans hgk (fun r e => .inl e)
      have HCK := Lib.hid hCK
      have hne : wA.heap.size ≠ wB.heap.size := by have := HSZB.out; omega
      have HNE := Lib.hid hne
      have x0 := hCK.cell HX0.out (by simpa using hne.symm)
      have x1 := hCK.cell HX1.out (by simpa using hne.symm)
      have x2 := hCK.cell HX2.out (by simpa using hne.symm)
      have x3 := hCK.cell HX3.out (by simpa using hne.symm)
      have x4 := hCK.cell HX4.out (by simpa using hne.symm)
      have HZK := Lib.hid (HZ0.out.gr hCK (by have := HSZA.out; have := HSZB.out; simp; omega))
      have HFK := Lib.hid (HF0.out.gr hCK (by have := HSZA.out; have := HSZB.out; simp; omega))
      have HGWK := Lib.hid (show Gr w wK none from HGW.out.trans hCK (fun r e => .inr (by cases e; have := HSZA.out; have := HSZB.out; omega)))
      obtain ⟨s, hs⟩ : ∃ s, setOf q.op q.x = s := ⟨_, rfl⟩
      have HS := Lib.hid hs
      rw [hs] at hst
      have hs6 : s < 6 := by omega
      clear hWt hWk hgk hs hklt hCK HWK HGK hne
      go_wp2_with fail
      refine (sets_any q.op q.x q.y q.n _ _).mono ?_
      rw [HS.out]
      rintro e w3 ⟨rfl, hg3⟩
      have HW3 := Lib.hid (HWT.out.gr0 hg3)
      have HZ3 := Lib.hid (HZK.out.gr0 hg3)
      have HF3 := Lib.hid (HFK.out.gr0 hg3)
      have HG3 := Lib.hid (HGWK.out.trans0 hg3)
      replace x0 := hg3.cell x0 (by simp)
      replace x1 := hg3.cell x1 (by simp)
      replace x2 := hg3.cell x2 (by simp)
      replace x3 := hg3.cell x3 (by simp)
      replace x4 := hg3.cell x4 (by simp)
      clear hg3
      by_cases h0 : s < 0
      · have hd0 : decide (s < 0) = true := decide_eq_true h0
        have HW4 := Lib.hid (show Words w3 wB.heap.size (aftW s (fun v => T1.testBit v) 0 O) from HW3.out.congr fun v hv => by
          unfold aftW
          have : ¬ s = (v : Int) := by omega
          simp [this])
        have HN1 := Lib.hid (show ∀ v, aftW s (fun v => T1.testBit v) 0 O v < 2 ^ 64 from fun v => by
          unfold aftW; split
          · omega
          · split
            · omega
            · exact HO.out v)
        have HN2 := Lib.hid (show ∀ b, rowW (aftW s (fun v => T1.testBit v) 0 O) b = true ↔ trkA p.types (pts p) (loanV p.types (pts p)) i (fun b => (O b.1).testBit b.2 = true) b from
          aftW_row (W := fun _ => O) (by rw [HPA.out]; exact HS.out) hs6 (fun v => by rw [HPA.out]; exact HT1.out v) (fun v k h => by show (O v).testBit k = false; rw [HO6.out v h, Nat.zero_testBit]) (fun h => absurd h (by omega)))
        obtain ⟨O3, hO3⟩ : ∃ O3, aftW s (fun v => T1.testBit v) 0 O = O3 := ⟨_, rfl⟩
        rw [hO3] at HW4 HN1 HN2
        clear hO3 x0 x1 x2 x3 x4
        have h0 := HW4.out.cell (v := 0) (by omega)
        have h1 := HW4.out.cell (v := 1) (by omega)
        have h2 := HW4.out.cell (v := 2) (by omega)
        have h3 := HW4.out.cell (v := 3) (by omega)
        have h4 := HW4.out.cell (v := 4) (by omega)
        have h5 := HW4.out.cell (v := 5) (by omega)
        have z0 := HZ3.out.cell (v := 0) (by omega)
        have z1 := HZ3.out.cell (v := 1) (by omega)
        have z2 := HZ3.out.cell (v := 2) (by omega)
        have z3 := HZ3.out.cell (v := 3) (by omega)
        have z4 := HZ3.out.cell (v := 4) (by omega)
        have z5 := HZ3.out.cell (v := 5) (by omega)
        have hzf := HZ3.out.free
        go_wp2_with fail
        refine bodyPost_ret (v := .agg (words O3)) ?_ rfl ⟨O3, rfl, HN1.out, HN2.out, setWords_gr HG3.out (by omega) O3⟩
        rw [results_cell rfl]
        have := (HZ3.out.copy O3).load
        unfold setWords at this
        simp [asAddr, Result.andThen, this]
      · obtain ⟨sj, rfl⟩ := Int.eq_ofNat_of_zero_le (show 0 ≤ s by omega)
        have hd0 : decide (((sj : Nat) : Int) < 0) = false := decide_eq_false h0
        have hsj : sj < 6 := by omega
        have cj := HW3.out.cell hsj
        have fj := HW3.out.free sj
        obtain ⟨zz, hzz⟩ : ∃ zz, (if T1.testBit sj = true then 0 else O sj) = zz := ⟨_, rfl⟩
        rw [hzz] at cj
        clear hzz h0
        go_upto_region 12 with fail
        obtain ⟨w4, hw4⟩ : ∃ w4 : World, w4 = w3.setCell ⟨wB.heap.size, sj, none⟩ (.int .u64 0) := ⟨_, rfl⟩
        have hg34 : Gr w3 w4 (some wB.heap.size) := by rw [hw4]; exact own_set _ _ _ _
        have HW4 := Lib.hid (show Words w4 wB.heap.size (updW (fun v => if T1.testBit v = true then 0 else O v) sj 0) by rw [hw4]; exact HW3.out.set 0 hsj)
        have hne2 := HNE.out
        replace x0 := hg34.cell x0 (by simpa using hne2.symm)
        replace x1 := hg34.cell x1 (by simpa using hne2.symm)
        replace x2 := hg34.cell x2 (by simpa using hne2.symm)
        replace x3 := hg34.cell x3 (by simpa using hne2.symm)
        replace x4 := hg34.cell x4 (by simpa using hne2.symm)
        have HZ4 := Lib.hid (HZ3.out.gr hg34 (by have := HSZA.out; have := HSZB.out; simp; omega))
        have HF4 := Lib.hid (HF3.out.gr hg34 (by have := HSZA.out; have := HSZB.out; simp; omega))
        have HG4 := Lib.hid (show Gr w w4 none by rw [hw4]; exact HG3.out.setNew (by have := HSZA.out; have := HSZB.out; simp; omega) _)
        rw [← hw4]
        clear hw4 hg34 cj fj hne2
        go_wp2_with fail
        refine (isLoan_any q.op q.x q.y q.n (.slice an nn cn) _).mono ?_
        obtain ⟨lb, hlb⟩ : ∃ lb, (q.op == 4 || q.op == 5) = lb := ⟨_, rfl⟩
        rw [hlb]
        rintro e w5 ⟨rfl, hg5⟩
        have HLB := Lib.hid hlb
        have HW5 := Lib.hid (HW4.out.gr0 hg5)
        have HZ5 := Lib.hid (HZ4.out.gr0 hg5)
        have HF5 := Lib.hid (HF4.out.gr0 hg5)
        have HG5 := Lib.hid (HG4.out.trans0 hg5)
        replace x0 := hg5.cell x0 (by simp)
        replace x1 := hg5.cell x1 (by simp)
        replace x2 := hg5.cell x2 (by simp)
        replace x3 := hg5.cell x3 (by simp)
        replace x4 := hg5.cell x4 (by simp)
        have HD5 := Lib.hid (HG5.out.cell HD0.out (by simp))
        obtain ⟨o3, ho3⟩ : ∃ o3, (q.op == 3) = o3 := ⟨_, rfl⟩
        have HO3 := Lib.hid ho3
        have cj := HW5.out.cell hsj
        have fj := HW5.out.free sj
        simp only [updW, if_true] at cj
        clear hg5 hlb ho3
        cases lb
        case' true =>
          have h45 : q.op = 4 ∨ q.op = 5 := by simpa using HLB.out
          obtain ⟨j, hyj, hjl⟩ := HY.out (by omega)
          have h3 : q.op ≠ 3 := by omega
          obtain rfl : o3 = false := by rw [← HO3.out]; exact beq_eq_false_iff_ne.2 h3
          have hpw : IntKind.u64.wrap ((2 : Int) ^ i) = ((2 ^ i : Nat) : Int) := u64_pow (by omega)
          have hp64 : 2 ^ i < 2 ^ 64 := Nat.pow_lt_pow_right (by omega) (by omega)
          have HB := Lib.hid (show ∀ k, (2 ^ i).testBit k = true ↔ (true = true ∧ k = i) from fun k => by rw [Nat.testBit_two_pow, decide_eq_true_eq]; exact ⟨fun h => ⟨rfl, h.symm⟩, fun h => h.2.symm⟩)
          obtain ⟨V0, hV0⟩ : ∃ V0, 2 ^ i = V0 := ⟨_, rfl⟩
          rw [hV0] at hpw hp64 HB
          have HP64 := Lib.hid hp64
          clear hV0 hp64 h45 h3
          go_upto_region 14 with fail
          obtain ⟨w6, hw6⟩ : ∃ w6 : World, w6 = w5.setCell ⟨wB.heap.size, sj, none⟩ (.int .u64 (V0 : Nat)) := ⟨_, rfl⟩
          have hg56 : Gr w5 w6 (some wB.heap.size) := by rw [hw6]; exact own_set _ _ _ _
          have HW6 := Lib.hid (show Words w6 wB.heap.size (updW (updW (fun v => if T1.testBit v = true then 0 else O v) sj 0) sj V0) by rw [hw6]; exact HW5.out.set V0 hsj)
          have hne2 := HNE.out
          replace x0 := hg56.cell x0 (by simpa using hne2.symm)
          replace x1 := hg56.cell x1 (by simpa using hne2.symm)
          replace x2 := hg56.cell x2 (by simpa using hne2.symm)
          replace x3 := hg56.cell x3 (by simpa using hne2.symm)
          replace x4 := hg56.cell x4 (by simpa using hne2.symm)
          have HZ6 := Lib.hid (HZ5.out.gr hg56 (by have := HSZA.out; have := HSZB.out; simp; omega))
          have HF6 := Lib.hid (HF5.out.gr hg56 (by have := HSZA.out; have := HSZB.out; simp; omega))
          have HG6 := Lib.hid (show Gr w w6 none by rw [hw6]; exact HG5.out.setNew (by have := HSZA.out; have := HSZB.out; simp; omega) _)
          rw [← hw6]
          clear hw6 hg56 cj fj hne2 hpw
          have d0 := HG6.out.cell HD0.out (by simp)
          obtain ⟨bt, ot, rfl, -, ct⟩ := HT.out.at hjl
          replace ct := HG6.out.cell ct (by simp)
          obtain ⟨t, ht⟩ : ∃ t, p.types[j] = t := ⟨_, rfl⟩
          rw [ht] at ct
          obtain ⟨rb, hrb⟩ : ∃ rb, isRef t = rb := ⟨_, rfl⟩
          have HRB := Lib.hid hrb
          have HCB := Lib.hid (show cbB p.types (pts p) i = rb by
            unfold cbB lnB
            rw [HPA.out, HLB.out, HO3.out, hyj, show ((j : Nat) : Int).toNat = j from rfl, show p.types.getD j 0 = t by simp [List.getD, hjl, ht], hrb]
            simp)
          rw [hyj] at x2
          clear ht hrb
          go_cut [63] (fun sv wx => sv = .bool rb ∧ Gr w6 wx none)
          case first =>
            cases rb with
            | true =>
--<RA
              refine wp_region_held_drew (S := fun w' => Gr w6 w' none) (by kernel_rfl) ((Gr.refl _ _).drew) (fun hHeld => ?_)
              refine wpAnyH_take (i := 0) (v := ?_) rfl (by kernel_rfl) (by kernel_rfl) (by kernel_rfl) (fun _ _ _ h => h) (Or.inl ⟨by rfl, ?_⟩) hHeld ?_
              rotate_left
              focus (intro wq hq; have k0 := hq.cell x0 (by simp); have k1 := hq.cell x1 (by simp); have k2 := hq.cell x2 (by simp); have k3 := hq.cell x3 (by simp); have k4 := hq.cell x4 (by simp); go_simp; try with_reducible rfl)
              simp only [Act.put, List.getElem_toArray, List.getElem_cons_zero, List.setIfInBounds_toArray, List.set_cons_zero, List.set_cons_succ]
              refine wpAnyH_ready (rs := [1]) (by kernel_rfl) (by simp) ?_
              refine AllReadyH.cons rfl (fun K hK => ?_) AllReadyH.nil
              go_simp
              refine (isLoan_any q.op q.x (j : Int) q.n (.slice an nn cn) _).mono ?_
              rw [HLB.out]
              rintro e w7 ⟨rfl, hg7⟩
              try dsimp only
              refine hK.out _ _ (hHeld.trans0 hg7) (fun hHeld => ?_)
              clear hK K
              try simp only [Act.put, List.getElem_toArray, List.getElem_cons_succ, List.getElem_cons_zero, List.setIfInBounds_toArray, List.set_cons_zero, List.set_cons_succ]
              refine wpAnyH_take (i := 2) (v := ?_) rfl (by kernel_rfl) (by kernel_rfl) (by kernel_rfl) (fun _ _ _ h => h) (Or.inl ⟨by rfl, ?_⟩) hHeld ?_
              rotate_left
              focus (intro wq hq; clear hq; go_simp; try with_reducible rfl)
              simp only [Act.put, List.getElem_toArray, List.getElem_cons_succ, List.getElem_cons_zero, List.setIfInBounds_toArray, List.set_cons_zero, List.set_cons_succ]
              refine wpAnyH_take (i := 3) (v := ?_) rfl (by kernel_rfl) (by kernel_rfl) (by kernel_rfl) (fun _ _ _ h => h) (Or.inl ⟨by rfl, ?_⟩) hHeld ?_
              rotate_left
              focus (intro wq hq; clear hq; go_simp; try with_reducible rfl)
              simp only [Act.put, List.getElem_toArray, List.getElem_cons_succ, List.getElem_cons_zero, List.setIfInBounds_toArray, List.set_cons_zero, List.set_cons_succ]
              refine wpAnyH_take (i := 4) (v := ?_) rfl (by kernel_rfl) (by kernel_rfl) (by kernel_rfl) (fun _ _ _ h => h) (Or.inl ⟨by rfl, ?_⟩) hHeld ?_
              rotate_left
              focus (intro wq hq; clear hq; go_simp; try with_reducible rfl)
              simp only [Act.put, List.getElem_toArray, List.getElem_cons_succ, List.getElem_cons_zero, List.setIfInBounds_toArray, List.set_cons_zero, List.set_cons_succ]
              refine wpAnyH_take (i := 5) (v := ?_) rfl (by kernel_rfl) (by kernel_rfl) (by kernel_rfl) (fun _ _ _ h => h) (Or.inl ⟨by rfl, ?_⟩) hHeld ?_
              rotate_left
              focus (intro wq hq; clear hq; go_simp; try with_reducible rfl)
              simp only [Act.put, List.getElem_toArray, List.getElem_cons_succ, List.getElem_cons_zero, List.setIfInBounds_toArray, List.set_cons_zero, List.set_cons_succ]
              refine wpAnyH_take (i := 6) (v := ?_) rfl (by kernel_rfl) (by kernel_rfl) (by kernel_rfl) (fun _ _ _ h => h) (Or.inl ⟨by rfl, ?_⟩) hHeld ?_
              rotate_left
              focus (intro wq hq; clear hq; go_simp; try with_reducible rfl)
              simp only [Act.put, List.getElem_toArray, List.getElem_cons_succ, List.getElem_cons_zero, List.setIfInBounds_toArray, List.set_cons_zero, List.set_cons_succ]
              refine wpAnyH_take (i := 7) (v := ?_) rfl (by kernel_rfl) (by kernel_rfl) (by kernel_rfl) (fun _ _ _ h => h) (Or.inl ⟨by rfl, ?_⟩) hHeld ?_
              rotate_left
              focus (intro wq hq; have k0 := hq.cell d0 (by simp); go_simp; try with_reducible rfl)
              simp only [Act.put, List.getElem_toArray, List.getElem_cons_succ, List.getElem_cons_zero, List.setIfInBounds_toArray, List.set_cons_zero, List.set_cons_succ]
              refine wpAnyH_take (i := 8) (v := ?_) rfl (by kernel_rfl) (by kernel_rfl) (by kernel_rfl) (fun _ _ _ h => h) (Or.inl ⟨by rfl, ?_⟩) hHeld ?_
              rotate_left
              focus (intro wq hq; clear hq; go_simp; try with_reducible rfl)
              simp only [Act.put, List.getElem_toArray, List.getElem_cons_succ, List.getElem_cons_zero, List.setIfInBounds_toArray, List.set_cons_zero, List.set_cons_succ]
              refine wpAnyH_take (i := 9) (v := ?_) rfl (by kernel_rfl) (by kernel_rfl) (by kernel_rfl) (fun _ _ _ h => h) (Or.inl ⟨by rfl, ?_⟩) hHeld ?_
              rotate_left
              focus (intro wq hq; have k0 := hq.cell x2 (by simp); go_simp; try with_reducible rfl)
              simp only [Act.put, List.getElem_toArray, List.getElem_cons_succ, List.getElem_cons_zero, List.setIfInBounds_toArray, List.set_cons_zero, List.set_cons_succ]
              refine wpAnyH_take (i := 10) (v := ?_) rfl (by kernel_rfl) (by kernel_rfl) (by kernel_rfl) (fun _ _ _ h => h) (Or.inl ⟨by rfl, ?_⟩) hHeld ?_
              rotate_left
              focus (intro wq hq; clear hq; go_simp; try with_reducible rfl)
              simp only [Act.put, List.getElem_toArray, List.getElem_cons_succ, List.getElem_cons_zero, List.setIfInBounds_toArray, List.set_cons_zero, List.set_cons_succ]
              refine wpAnyH_take (i := 11) (v := ?_) rfl (by kernel_rfl) (by kernel_rfl) (by kernel_rfl) (fun _ _ _ h => h) (Or.inl ⟨by rfl, ?_⟩) hHeld ?_
              rotate_left
              focus (intro wq hq; have k0 := hq.cell ct (by simp); go_simp; try with_reducible rfl)
              simp only [Act.put, List.getElem_toArray, List.getElem_cons_succ, List.getElem_cons_zero, List.setIfInBounds_toArray, List.set_cons_zero, List.set_cons_succ]
              refine wpAnyH_ready (rs := [12]) (by kernel_rfl) (by simp) ?_
              refine AllReadyH.cons rfl (fun K hK => ?_) AllReadyH.nil
              go_simp
              refine (implIsRef_any t _).mono ?_
              rw [HRB.out]
              rintro e w8 ⟨rfl, rfl⟩
              try dsimp only
              refine hK.out _ _ (hHeld) (fun hHeld => ?_)
              clear hK K
              try simp only [Act.put, List.getElem_toArray, List.getElem_cons_succ, List.getElem_cons_zero, List.setIfInBounds_toArray, List.set_cons_zero, List.set_cons_succ]
              refine wpAnyH_take (i := 13) (v := ?_) rfl (by kernel_rfl) (by kernel_rfl) (by kernel_rfl) (fun _ _ _ h => h) (Or.inl ⟨by rfl, ?_⟩) hHeld ?_
              rotate_left
              focus (intro wq hq; clear hq; go_simp; try with_reducible rfl)
              simp only [Act.put, List.getElem_toArray, List.getElem_cons_succ, List.getElem_cons_zero, List.setIfInBounds_toArray, List.set_cons_zero, List.set_cons_succ]
              refine wpAnyH_take (i := 14) (v := ?_) rfl (by kernel_rfl) (by kernel_rfl) (by kernel_rfl) (fun _ _ _ h => h) (Or.inl ⟨by rfl, ?_⟩) hHeld ?_
              rotate_left
              focus (intro wq hq; clear hq; go_simp; try with_reducible rfl)
              simp only [Act.put, List.getElem_toArray, List.getElem_cons_succ, List.getElem_cons_zero, List.setIfInBounds_toArray, List.set_cons_zero, List.set_cons_succ]
              refine wpAnyH_take (i := 15) (v := _) rfl (by kernel_rfl) (by kernel_rfl) (by kernel_rfl) (fun _ _ _ h => h) (Or.inr ⟨by rfl, rfl⟩) hHeld ?_
              simp only [Act.put, List.getElem_toArray, List.getElem_cons_succ, List.getElem_cons_zero, List.setIfInBounds_toArray, List.set_cons_zero, List.set_cons_succ]
              refine wpAnyH_take (i := 16) (v := _) rfl (by kernel_rfl) (by kernel_rfl) (by kernel_rfl) (fun _ _ _ h => h) (Or.inr ⟨by rfl, rfl⟩) hHeld ?_
              simp only [Act.put, List.getElem_toArray, List.getElem_cons_succ, List.getElem_cons_zero, List.setIfInBounds_toArray, List.set_cons_zero, List.set_cons_succ]
              refine wpAnyH_take (i := 17) (v := _) rfl (by kernel_rfl) (by kernel_rfl) (by kernel_rfl) (fun _ _ _ h => h) (Or.inr ⟨by rfl, rfl⟩) hHeld ?_
              simp only [Act.put, List.getElem_toArray, List.getElem_cons_succ, List.getElem_cons_zero, List.setIfInBounds_toArray, List.set_cons_zero, List.set_cons_succ]
              refine wpAnyH_take (i := 18) (v := ?_) rfl (by kernel_rfl) (by kernel_rfl) (by kernel_rfl) (fun _ _ _ h => h) (Or.inl ⟨by rfl, ?_⟩) hHeld ?_
              rotate_left
              focus (intro wq hq; clear hq; go_simp; try with_reducible rfl)
              simp only [Act.put, List.getElem_toArray, List.getElem_cons_succ, List.getElem_cons_zero, List.setIfInBounds_toArray, List.set_cons_zero, List.set_cons_succ]
              refine wpAnyH_done (by kernel_rfl) ?_ _
              go_wp2_with fail
              go_meet
              exact ⟨rfl, hHeld⟩
--RA>
            | false =>
--<RB
              refine wp_region_held_drew (S := fun w' => Gr w6 w' none) (by kernel_rfl) ((Gr.refl _ _).drew) (fun hHeld => ?_)
              refine wpAnyH_take (i := 0) (v := ?_) rfl (by kernel_rfl) (by kernel_rfl) (by kernel_rfl) (fun _ _ _ h => h) (Or.inl ⟨by rfl, ?_⟩) hHeld ?_
              rotate_left
              focus (intro wq hq; have k0 := hq.cell x0 (by simp); have k1 := hq.cell x1 (by simp); have k2 := hq.cell x2 (by simp); have k3 := hq.cell x3 (by simp); have k4 := hq.cell x4 (by simp); go_simp; try with_reducible rfl)
              simp only [Act.put, List.getElem_toArray, List.getElem_cons_zero, List.setIfInBounds_toArray, List.set_cons_zero, List.set_cons_succ]
              refine wpAnyH_ready (rs := [1]) (by kernel_rfl) (by simp) ?_
              refine AllReadyH.cons rfl (fun K hK => ?_) AllReadyH.nil
              go_simp
              refine (isLoan_any q.op q.x (j : Int) q.n (.slice an nn cn) _).mono ?_
              rw [HLB.out]
              rintro e w7 ⟨rfl, hg7⟩
              try dsimp only
              refine hK.out _ _ (hHeld.trans0 hg7) (fun hHeld => ?_)
              clear hK K
              try simp only [Act.put, List.getElem_toArray, List.getElem_cons_succ, List.getElem_cons_zero, List.setIfInBounds_toArray, List.set_cons_zero, List.set_cons_succ]
              refine wpAnyH_take (i := 2) (v := ?_) rfl (by kernel_rfl) (by kernel_rfl) (by kernel_rfl) (fun _ _ _ h => h) (Or.inl ⟨by rfl, ?_⟩) hHeld ?_
              rotate_left
              focus (intro wq hq; clear hq; go_simp; try with_reducible rfl)
              simp only [Act.put, List.getElem_toArray, List.getElem_cons_succ, List.getElem_cons_zero, List.setIfInBounds_toArray, List.set_cons_zero, List.set_cons_succ]
              refine wpAnyH_take (i := 3) (v := ?_) rfl (by kernel_rfl) (by kernel_rfl) (by kernel_rfl) (fun _ _ _ h => h) (Or.inl ⟨by rfl, ?_⟩) hHeld ?_
              rotate_left
              focus (intro wq hq; clear hq; go_simp; try with_reducible rfl)
              simp only [Act.put, List.getElem_toArray, List.getElem_cons_succ, List.getElem_cons_zero, List.setIfInBounds_toArray, List.set_cons_zero, List.set_cons_succ]
              refine wpAnyH_take (i := 4) (v := ?_) rfl (by kernel_rfl) (by kernel_rfl) (by kernel_rfl) (fun _ _ _ h => h) (Or.inl ⟨by rfl, ?_⟩) hHeld ?_
              rotate_left
              focus (intro wq hq; clear hq; go_simp; try with_reducible rfl)
              simp only [Act.put, List.getElem_toArray, List.getElem_cons_succ, List.getElem_cons_zero, List.setIfInBounds_toArray, List.set_cons_zero, List.set_cons_succ]
              refine wpAnyH_take (i := 5) (v := ?_) rfl (by kernel_rfl) (by kernel_rfl) (by kernel_rfl) (fun _ _ _ h => h) (Or.inl ⟨by rfl, ?_⟩) hHeld ?_
              rotate_left
              focus (intro wq hq; clear hq; go_simp; try with_reducible rfl)
              simp only [Act.put, List.getElem_toArray, List.getElem_cons_succ, List.getElem_cons_zero, List.setIfInBounds_toArray, List.set_cons_zero, List.set_cons_succ]
              refine wpAnyH_take (i := 6) (v := ?_) rfl (by kernel_rfl) (by kernel_rfl) (by kernel_rfl) (fun _ _ _ h => h) (Or.inl ⟨by rfl, ?_⟩) hHeld ?_
              rotate_left
              focus (intro wq hq; clear hq; go_simp; try with_reducible rfl)
              simp only [Act.put, List.getElem_toArray, List.getElem_cons_succ, List.getElem_cons_zero, List.setIfInBounds_toArray, List.set_cons_zero, List.set_cons_succ]
              refine wpAnyH_take (i := 7) (v := ?_) rfl (by kernel_rfl) (by kernel_rfl) (by kernel_rfl) (fun _ _ _ h => h) (Or.inl ⟨by rfl, ?_⟩) hHeld ?_
              rotate_left
              focus (intro wq hq; have k0 := hq.cell d0 (by simp); go_simp; try with_reducible rfl)
              simp only [Act.put, List.getElem_toArray, List.getElem_cons_succ, List.getElem_cons_zero, List.setIfInBounds_toArray, List.set_cons_zero, List.set_cons_succ]
              refine wpAnyH_take (i := 8) (v := ?_) rfl (by kernel_rfl) (by kernel_rfl) (by kernel_rfl) (fun _ _ _ h => h) (Or.inl ⟨by rfl, ?_⟩) hHeld ?_
              rotate_left
              focus (intro wq hq; clear hq; go_simp; try with_reducible rfl)
              simp only [Act.put, List.getElem_toArray, List.getElem_cons_succ, List.getElem_cons_zero, List.setIfInBounds_toArray, List.set_cons_zero, List.set_cons_succ]
              refine wpAnyH_take (i := 9) (v := ?_) rfl (by kernel_rfl) (by kernel_rfl) (by kernel_rfl) (fun _ _ _ h => h) (Or.inl ⟨by rfl, ?_⟩) hHeld ?_
              rotate_left
              focus (intro wq hq; have k0 := hq.cell x2 (by simp); go_simp; try with_reducible rfl)
              simp only [Act.put, List.getElem_toArray, List.getElem_cons_succ, List.getElem_cons_zero, List.setIfInBounds_toArray, List.set_cons_zero, List.set_cons_succ]
              refine wpAnyH_take (i := 10) (v := ?_) rfl (by kernel_rfl) (by kernel_rfl) (by kernel_rfl) (fun _ _ _ h => h) (Or.inl ⟨by rfl, ?_⟩) hHeld ?_
              rotate_left
              focus (intro wq hq; clear hq; go_simp; try with_reducible rfl)
              simp only [Act.put, List.getElem_toArray, List.getElem_cons_succ, List.getElem_cons_zero, List.setIfInBounds_toArray, List.set_cons_zero, List.set_cons_succ]
              refine wpAnyH_take (i := 11) (v := ?_) rfl (by kernel_rfl) (by kernel_rfl) (by kernel_rfl) (fun _ _ _ h => h) (Or.inl ⟨by rfl, ?_⟩) hHeld ?_
              rotate_left
              focus (intro wq hq; have k0 := hq.cell ct (by simp); go_simp; try with_reducible rfl)
              simp only [Act.put, List.getElem_toArray, List.getElem_cons_succ, List.getElem_cons_zero, List.setIfInBounds_toArray, List.set_cons_zero, List.set_cons_succ]
              refine wpAnyH_ready (rs := [12]) (by kernel_rfl) (by simp) ?_
              refine AllReadyH.cons rfl (fun K hK => ?_) AllReadyH.nil
              go_simp
              refine (implIsRef_any t _).mono ?_
              rw [HRB.out]
              rintro e w8 ⟨rfl, rfl⟩
              try dsimp only
              refine hK.out _ _ (hHeld) (fun hHeld => ?_)
              clear hK K
              try simp only [Act.put, List.getElem_toArray, List.getElem_cons_succ, List.getElem_cons_zero, List.setIfInBounds_toArray, List.set_cons_zero, List.set_cons_succ]
              refine wpAnyH_take (i := 13) (v := ?_) rfl (by kernel_rfl) (by kernel_rfl) (by kernel_rfl) (fun _ _ _ h => h) (Or.inl ⟨by rfl, ?_⟩) hHeld ?_
              rotate_left
              focus (intro wq hq; clear hq; go_simp; try with_reducible rfl)
              simp only [Act.put, List.getElem_toArray, List.getElem_cons_succ, List.getElem_cons_zero, List.setIfInBounds_toArray, List.set_cons_zero, List.set_cons_succ]
              refine wpAnyH_take (i := 14) (v := ?_) rfl (by kernel_rfl) (by kernel_rfl) (by kernel_rfl) (fun _ _ _ h => h) (Or.inl ⟨by rfl, ?_⟩) hHeld ?_
              rotate_left
              focus (intro wq hq; clear hq; go_simp; try with_reducible rfl)
              simp only [Act.put, List.getElem_toArray, List.getElem_cons_succ, List.getElem_cons_zero, List.setIfInBounds_toArray, List.set_cons_zero, List.set_cons_succ]
              refine wpAnyH_take (i := 15) (v := ?_) rfl (by kernel_rfl) (by kernel_rfl) (by kernel_rfl) (fun _ _ _ h => h) (Or.inl ⟨by rfl, ?_⟩) hHeld ?_
              rotate_left
              focus (intro wq hq; clear hq; go_simp; try with_reducible rfl)
              simp only [Act.put, List.getElem_toArray, List.getElem_cons_succ, List.getElem_cons_zero, List.setIfInBounds_toArray, List.set_cons_zero, List.set_cons_succ]
              refine wpAnyH_take (i := 16) (v := ?_) rfl (by kernel_rfl) (by kernel_rfl) (by kernel_rfl) (fun _ _ _ h => h) (Or.inl ⟨by rfl, ?_⟩) hHeld ?_
              rotate_left
              focus (intro wq hq; have k0 := hq.cell x0 (by simp); go_simp; try with_reducible rfl)
              simp only [Act.put, List.getElem_toArray, List.getElem_cons_succ, List.getElem_cons_zero, List.setIfInBounds_toArray, List.set_cons_zero, List.set_cons_succ]
              refine wpAnyH_take (i := 17) (v := ?_) rfl (by kernel_rfl) (by kernel_rfl) (by kernel_rfl) (fun _ _ _ h => h) (Or.inl ⟨by rfl, ?_⟩) hHeld ?_
              rotate_left
              focus (intro wq hq; clear hq; go_simp; try with_reducible rfl)
              simp only [Act.put, List.getElem_toArray, List.getElem_cons_succ, List.getElem_cons_zero, List.setIfInBounds_toArray, List.set_cons_zero, List.set_cons_succ]
              refine wpAnyH_take (i := 18) (v := ?_) rfl (by kernel_rfl) (by kernel_rfl) (by kernel_rfl) (fun _ _ _ h => h) (Or.inl ⟨by rfl, ?_⟩) hHeld ?_
              rotate_left
              focus (intro wq hq; clear hq; go_simp; try with_reducible rfl)
              simp only [Act.put, List.getElem_toArray, List.getElem_cons_succ, List.getElem_cons_zero, List.setIfInBounds_toArray, List.set_cons_zero, List.set_cons_succ]
              refine wpAnyH_done (by kernel_rfl) ?_ _
              go_wp2_with fail
              go_meet
              exact ⟨by try rw [HO3.out], hHeld⟩
--RB>
        case' false =>
          have h3' : q.op = 3 → o3 = true := fun h => by rw [← HO3.out, h]; rfl
          have HB := Lib.hid (show ∀ k, (0 : Nat).testBit k = true ↔ (false = true ∧ k = i) from fun k => by rw [Nat.zero_testBit]; simp)
          obtain ⟨V0, hV0⟩ : ∃ V0, V0 = 0 := ⟨_, rfl⟩
          have HP64 := Lib.hid (show V0 < 2 ^ 64 by omega)
          rw [← hV0] at HB
          obtain ⟨w6, hw6⟩ : ∃ w6 : World, w6 = w5 := ⟨_, rfl⟩
          have HW6 := Lib.hid (show Words w6 wB.heap.size (updW (updW (fun v => if T1.testBit v = true then 0 else O v) sj 0) sj V0) by
            rw [hw6, hV0]
            exact HW5.out.congr fun v _ => by unfold updW; split <;> rfl)
          rw [← hw6] at HZ5 HF5 HG5 x0 x1 x2 x3 x4
          have HZ6 := Lib.hid HZ5.out
          have HF6 := Lib.hid HF5.out
          have HG6 := Lib.hid HG5.out
          go_upto_region 14 with fail
          rw [← hw6]
          obtain ⟨rb, hrb⟩ : ∃ rb, o3 = rb := ⟨_, rfl⟩
          have HCB := Lib.hid (show cbB p.types (pts p) i = rb by
            unfold cbB lnB
            rw [HPA.out, HLB.out, HO3.out, hrb]
            simp)
          clear cj fj hw6 hV0 h3'
          subst hrb
          go_cut [63] (fun sv wx => sv = .bool o3 ∧ Gr w6 wx none)
          case first =>
--<RC
            refine wp_region_held_drew (S := fun w' => Gr w6 w' none) (by kernel_rfl) ((Gr.refl _ _).drew) (fun hHeld => ?_)
            refine wpAnyH_take (i := 0) (v := ?_) rfl (by kernel_rfl) (by kernel_rfl) (by kernel_rfl) (fun _ _ _ h => h) (Or.inl ⟨by rfl, ?_⟩) hHeld ?_
            rotate_left
            focus (intro wq hq; have k0 := hq.cell x0 (by simp); have k1 := hq.cell x1 (by simp); have k2 := hq.cell x2 (by simp); have k3 := hq.cell x3 (by simp); have k4 := hq.cell x4 (by simp); go_simp; try with_reducible rfl)
            simp only [Act.put, List.getElem_toArray, List.getElem_cons_zero, List.setIfInBounds_toArray, List.set_cons_zero, List.set_cons_succ]
            refine wpAnyH_ready (rs := [1]) (by kernel_rfl) (by simp) ?_
            refine AllReadyH.cons rfl (fun K hK => ?_) AllReadyH.nil
            go_simp
            refine (isLoan_any q.op q.x q.y q.n (.slice an nn cn) _).mono ?_
            rw [HLB.out]
            rintro e w7 ⟨rfl, hg7⟩
            try dsimp only
            refine hK.out _ _ (hHeld.trans0 hg7) (fun hHeld => ?_)
            clear hK K
            try simp only [Act.put, List.getElem_toArray, List.getElem_cons_succ, List.getElem_cons_zero, List.setIfInBounds_toArray, List.set_cons_zero, List.set_cons_succ]
            refine wpAnyH_take (i := 2) (v := ?_) rfl (by kernel_rfl) (by kernel_rfl) (by kernel_rfl) (fun _ _ _ h => h) (Or.inl ⟨by rfl, ?_⟩) hHeld ?_
            rotate_left
            focus (intro wq hq; clear hq; go_simp; try with_reducible rfl)
            simp only [Act.put, List.getElem_toArray, List.getElem_cons_succ, List.getElem_cons_zero, List.setIfInBounds_toArray, List.set_cons_zero, List.set_cons_succ]
            refine wpAnyH_take (i := 3) (v := _) rfl (by kernel_rfl) (by kernel_rfl) (by kernel_rfl) (fun _ _ _ h => h) (Or.inr ⟨by rfl, rfl⟩) hHeld ?_
            simp only [Act.put, List.getElem_toArray, List.getElem_cons_succ, List.getElem_cons_zero, List.setIfInBounds_toArray, List.set_cons_zero, List.set_cons_succ]
            refine wpAnyH_take (i := 4) (v := _) rfl (by kernel_rfl) (by kernel_rfl) (by kernel_rfl) (fun _ _ _ h => h) (Or.inr ⟨by rfl, rfl⟩) hHeld ?_
            simp only [Act.put, List.getElem_toArray, List.getElem_cons_succ, List.getElem_cons_zero, List.setIfInBounds_toArray, List.set_cons_zero, List.set_cons_succ]
            refine wpAnyH_take (i := 5) (v := _) rfl (by kernel_rfl) (by kernel_rfl) (by kernel_rfl) (fun _ _ _ h => h) (Or.inr ⟨by rfl, rfl⟩) hHeld ?_
            simp only [Act.put, List.getElem_toArray, List.getElem_cons_succ, List.getElem_cons_zero, List.setIfInBounds_toArray, List.set_cons_zero, List.set_cons_succ]
            refine wpAnyH_take (i := 6) (v := _) rfl (by kernel_rfl) (by kernel_rfl) (by kernel_rfl) (fun _ _ _ h => h) (Or.inr ⟨by rfl, rfl⟩) hHeld ?_
            simp only [Act.put, List.getElem_toArray, List.getElem_cons_succ, List.getElem_cons_zero, List.setIfInBounds_toArray, List.set_cons_zero, List.set_cons_succ]
            refine wpAnyH_take (i := 7) (v := _) rfl (by kernel_rfl) (by kernel_rfl) (by kernel_rfl) (fun _ _ _ h => h) (Or.inr ⟨by rfl, rfl⟩) hHeld ?_
            simp only [Act.put, List.getElem_toArray, List.getElem_cons_succ, List.getElem_cons_zero, List.setIfInBounds_toArray, List.set_cons_zero, List.set_cons_succ]
            refine wpAnyH_take (i := 8) (v := _) rfl (by kernel_rfl) (by kernel_rfl) (by kernel_rfl) (fun _ _ _ h => h) (Or.inr ⟨by rfl, rfl⟩) hHeld ?_
            simp only [Act.put, List.getElem_toArray, List.getElem_cons_succ, List.getElem_cons_zero, List.setIfInBounds_toArray, List.set_cons_zero, List.set_cons_succ]
            refine wpAnyH_take (i := 9) (v := _) rfl (by kernel_rfl) (by kernel_rfl) (by kernel_rfl) (fun _ _ _ h => h) (Or.inr ⟨by rfl, rfl⟩) hHeld ?_
            simp only [Act.put, List.getElem_toArray, List.getElem_cons_succ, List.getElem_cons_zero, List.setIfInBounds_toArray, List.set_cons_zero, List.set_cons_succ]
            refine wpAnyH_take (i := 10) (v := _) rfl (by kernel_rfl) (by kernel_rfl) (by kernel_rfl) (fun _ _ _ h => h) (Or.inr ⟨by rfl, rfl⟩) hHeld ?_
            simp only [Act.put, List.getElem_toArray, List.getElem_cons_succ, List.getElem_cons_zero, List.setIfInBounds_toArray, List.set_cons_zero, List.set_cons_succ]
            refine wpAnyH_take (i := 11) (v := _) rfl (by kernel_rfl) (by kernel_rfl) (by kernel_rfl) (fun _ _ _ h => h) (Or.inr ⟨by rfl, rfl⟩) hHeld ?_
            simp only [Act.put, List.getElem_toArray, List.getElem_cons_succ, List.getElem_cons_zero, List.setIfInBounds_toArray, List.set_cons_zero, List.set_cons_succ]
            refine wpAnyH_take (i := 12) (v := _) rfl (by kernel_rfl) (by kernel_rfl) (by kernel_rfl) (fun _ _ _ h => h) (Or.inr ⟨by rfl, rfl⟩) hHeld ?_
            simp only [Act.put, List.getElem_toArray, List.getElem_cons_succ, List.getElem_cons_zero, List.setIfInBounds_toArray, List.set_cons_zero, List.set_cons_succ]
            refine wpAnyH_take (i := 13) (v := ?_) rfl (by kernel_rfl) (by kernel_rfl) (by kernel_rfl) (fun _ _ _ h => h) (Or.inl ⟨by rfl, ?_⟩) hHeld ?_
            rotate_left
            focus (intro wq hq; clear hq; go_simp; try with_reducible rfl)
            simp only [Act.put, List.getElem_toArray, List.getElem_cons_succ, List.getElem_cons_zero, List.setIfInBounds_toArray, List.set_cons_zero, List.set_cons_succ]
            refine wpAnyH_take (i := 14) (v := ?_) rfl (by kernel_rfl) (by kernel_rfl) (by kernel_rfl) (fun _ _ _ h => h) (Or.inl ⟨by rfl, ?_⟩) hHeld ?_
            rotate_left
            focus (intro wq hq; clear hq; go_simp; try with_reducible rfl)
            simp only [Act.put, List.getElem_toArray, List.getElem_cons_succ, List.getElem_cons_zero, List.setIfInBounds_toArray, List.set_cons_zero, List.set_cons_succ]
            refine wpAnyH_take (i := 15) (v := ?_) rfl (by kernel_rfl) (by kernel_rfl) (by kernel_rfl) (fun _ _ _ h => h) (Or.inl ⟨by rfl, ?_⟩) hHeld ?_
            rotate_left
            focus (intro wq hq; clear hq; go_simp; try with_reducible rfl)
            simp only [Act.put, List.getElem_toArray, List.getElem_cons_succ, List.getElem_cons_zero, List.setIfInBounds_toArray, List.set_cons_zero, List.set_cons_succ]
            refine wpAnyH_take (i := 16) (v := ?_) rfl (by kernel_rfl) (by kernel_rfl) (by kernel_rfl) (fun _ _ _ h => h) (Or.inl ⟨by rfl, ?_⟩) hHeld ?_
            rotate_left
            focus (intro wq hq; have k0 := hq.cell x0 (by simp); go_simp; try with_reducible rfl)
            simp only [Act.put, List.getElem_toArray, List.getElem_cons_succ, List.getElem_cons_zero, List.setIfInBounds_toArray, List.set_cons_zero, List.set_cons_succ]
            refine wpAnyH_take (i := 17) (v := ?_) rfl (by kernel_rfl) (by kernel_rfl) (by kernel_rfl) (fun _ _ _ h => h) (Or.inl ⟨by rfl, ?_⟩) hHeld ?_
            rotate_left
            focus (intro wq hq; clear hq; go_simp; try with_reducible rfl)
            simp only [Act.put, List.getElem_toArray, List.getElem_cons_succ, List.getElem_cons_zero, List.setIfInBounds_toArray, List.set_cons_zero, List.set_cons_succ]
            refine wpAnyH_take (i := 18) (v := ?_) rfl (by kernel_rfl) (by kernel_rfl) (by kernel_rfl) (fun _ _ _ h => h) (Or.inl ⟨by rfl, ?_⟩) hHeld ?_
            rotate_left
            focus (intro wq hq; clear hq; go_simp; try with_reducible rfl)
            simp only [Act.put, List.getElem_toArray, List.getElem_cons_succ, List.getElem_cons_zero, List.setIfInBounds_toArray, List.set_cons_zero, List.set_cons_succ]
            refine wpAnyH_done (by kernel_rfl) ?_ _
            go_wp2_with fail
            go_meet
            exact ⟨by try rw [HO3.out], hHeld⟩
--RC>
        all_goals
          rename World => wx
          obtain ⟨rfl, hgx⟩ := hcut
          obtain ⟨cb, hcb⟩ : ∃ cb, cbB p.types (pts p) i = cb := ⟨_, rfl⟩
          have hcc := HCB.out
          rw [hcb] at hcc
          subst hcc
          have HCC := Lib.hid hcb
          try rw [← hyj] at x2
          have HWX := Lib.hid (HW6.out.gr0 hgx)
          have HZX := Lib.hid (HZ6.out.gr0 hgx)
          have HFX := Lib.hid (HF6.out.gr0 hgx)
          have HGX := Lib.hid (HG6.out.trans0 hgx)
          have y2 := hgx.cell x2 (by simp)
          clear hgx hcb
          cases cb with
          | true =>
            have hop : q.op = 3 ∨ q.op = 4 ∨ q.op = 5 := by
              have := HCC.out
              unfold cbB lnB at this
              rw [HPA.out] at this
              simp at this
              omega
            obtain ⟨j2, hyj2, hjl2⟩ := HY.out hop
            rw [hyj2] at y2
            have hj6 : j2 < 6 := by omega
            have o0 := HWX.out.cell hsj
            simp only [updW, if_true] at o0
            have of := HWX.out.free sj
            have fy := HFX.out.cell hj6
            have hor : bits BinOp.or .u64 (V0 : Nat) (O j2 : Nat) = ((V0 ||| O j2 : Nat) : Int) := u64_or HP64.out (HO.out j2)
            obtain ⟨Oj, hOj⟩ : ∃ Oj, O j2 = Oj := ⟨_, rfl⟩
            obtain ⟨V, hV⟩ : ∃ V, V0 ||| Oj = V := ⟨_, rfl⟩
            rw [hOj] at fy hor
            rw [hV] at hor
            have HOJ := Lib.hid hOj
            have HVV := Lib.hid hV
            have HYJ := Lib.hid hyj2
            have HN := Lib.hid (show Words (wx.setCell ⟨wB.heap.size, sj, none⟩ (.int .u64 (V : Nat))) wB.heap.size (updW (updW (updW (fun v => if T1.testBit v = true then 0 else O v) sj 0) sj V0) sj V) from HWX.out.set V hsj)
            clear hOj hV hyj2 hop x0 x1 x2 x3 x4
            go_upto_region 15 with fail
            go_region
            all_goals
              obtain ⟨w8, hw8⟩ : ∃ w8 : World, w8 = (wx.setCell ⟨wB.heap.size, sj, none⟩ (.int .u64 (V : Nat))).drew := ⟨_, rfl⟩
              have HW8 := Lib.hid (show Words w8 wB.heap.size (aftW ((sj : Nat) : Int) (fun v => T1.testBit v) V O) by
                rw [hw8]
                exact (HN.out.gr0 (Gr.refl _ _).drew).congr fun v hv => by
                  unfold aftW updW
                  by_cases e : v = sj
                  · subst e; simp
                  · have : ¬ ((sj : Nat) : Int) = (v : Int) := by omega
                    simp [e, this])
              have HZ8 := Lib.hid (show Words w8 (w.heap.size + 1) (fun _ => 0) by
                rw [hw8]
                exact (HZX.out.gr (own_set _ _ _ _) (by have := HSZA.out; have := HSZB.out; simp; omega)).gr0 (Gr.refl _ _).drew)
              have HG8 := Lib.hid (show Gr w w8 none by
                rw [hw8]
                exact (HGX.out.setNew (by have := HSZA.out; have := HSZB.out; simp; omega) _).drew)
              rw [← hw8]
              have HV64 := Lib.hid (show V < 2 ^ 64 by rw [← HVV.out]; exact Nat.or_lt_two_pow HP64.out (by rw [← HOJ.out]; exact HO.out j2))
              have HN1 := Lib.hid (show ∀ v, aftW ((sj : Nat) : Int) (fun v => T1.testBit v) V O v < 2 ^ 64 from fun v => by
                unfold aftW; split
                · exact HV64.out
                · split
                  · omega
                  · exact HO.out v)
              have HN2 := Lib.hid (show ∀ b, rowW (aftW ((sj : Nat) : Int) (fun v => T1.testBit v) V O) b = true ↔ trkA p.types (pts p) (loanV p.types (pts p)) i (fun b => (O b.1).testBit b.2 = true) b from
                aftW_row (W := fun _ => O) (by rw [HPA.out]; exact HS.out) hs6 (fun v => by rw [HPA.out]; exact HT1.out v) (fun v k h => by show (O v).testBit k = false; rw [HO6.out v h, Nat.zero_testBit]) (fun _ k => by
                  rw [← HVV.out, Nat.testBit_or, Bool.or_eq_true, HB.out k, ← HOJ.out]
                  unfold loanV lnB
                  rw [HCC.out, HPA.out, HLB.out, HYJ.out]
                  show _ ↔ (_ ∨ (true = true ∧ (O j2).testBit k = true))
                  simp))
              obtain ⟨O3, hO3⟩ : ∃ O3, aftW ((sj : Nat) : Int) (fun v => T1.testBit v) V O = O3 := ⟨_, rfl⟩
              rw [hO3] at HW8 HN1 HN2
              clear hO3 hw8 o0 of fy y2 hor
              have h0 := HW8.out.cell (v := 0) (by omega)
              have h1 := HW8.out.cell (v := 1) (by omega)
              have h2 := HW8.out.cell (v := 2) (by omega)
              have h3 := HW8.out.cell (v := 3) (by omega)
              have h4 := HW8.out.cell (v := 4) (by omega)
              have h5 := HW8.out.cell (v := 5) (by omega)
              have z0 := HZ8.out.cell (v := 0) (by omega)
              have z1 := HZ8.out.cell (v := 1) (by omega)
              have z2 := HZ8.out.cell (v := 2) (by omega)
              have z3 := HZ8.out.cell (v := 3) (by omega)
              have z4 := HZ8.out.cell (v := 4) (by omega)
              have z5 := HZ8.out.cell (v := 5) (by omega)
              have hzf := HZ8.out.free
              go_wp2_with fail
              refine bodyPost_ret (v := .agg (words O3)) ?_ rfl ⟨O3, rfl, HN1.out, HN2.out, setWords_gr HG8.out (by omega) O3⟩
              rw [results_cell rfl]
              have := (HZ8.out.copy O3).load
              unfold setWords at this
              simp [asAddr, Result.andThen, this]
          | false =>
            have HW4 := Lib.hid (show Words wx wB.heap.size (aftW ((sj : Nat) : Int) (fun v => T1.testBit v) V0 O) from HWX.out.congr fun v hv => by
              unfold aftW updW
              by_cases e : v = sj
              · subst e; simp
              · have : ¬ ((sj : Nat) : Int) = (v : Int) := by omega
                simp [e, this])
            have HN1 := Lib.hid (show ∀ v, aftW ((sj : Nat) : Int) (fun v => T1.testBit v) V0 O v < 2 ^ 64 from fun v => by
              unfold aftW; split
              · exact HP64.out
              · split
                · omega
                · exact HO.out v)
            have HN2 := Lib.hid (show ∀ b, rowW (aftW ((sj : Nat) : Int) (fun v => T1.testBit v) V0 O) b = true ↔ trkA p.types (pts p) (loanV p.types (pts p)) i (fun b => (O b.1).testBit b.2 = true) b from
              aftW_row (W := fun _ => O) (by rw [HPA.out]; exact HS.out) hs6 (fun v => by rw [HPA.out]; exact HT1.out v) (fun v k h => by show (O v).testBit k = false; rw [HO6.out v h, Nat.zero_testBit]) (fun _ k => by
                rw [HB.out k]
                unfold loanV lnB
                rw [HCC.out, HPA.out, HLB.out]
                simp))
            obtain ⟨O3, hO3⟩ : ∃ O3, aftW ((sj : Nat) : Int) (fun v => T1.testBit v) V0 O = O3 := ⟨_, rfl⟩
            rw [hO3] at HW4 HN1 HN2
            clear hO3 x0 x1 x2 x3 x4
            have h0 := HW4.out.cell (v := 0) (by omega)
            have h1 := HW4.out.cell (v := 1) (by omega)
            have h2 := HW4.out.cell (v := 2) (by omega)
            have h3 := HW4.out.cell (v := 3) (by omega)
            have h4 := HW4.out.cell (v := 4) (by omega)
            have h5 := HW4.out.cell (v := 5) (by omega)
            have z0 := HZX.out.cell (v := 0) (by omega)
            have z1 := HZX.out.cell (v := 1) (by omega)
            have z2 := HZX.out.cell (v := 2) (by omega)
            have z3 := HZX.out.cell (v := 3) (by omega)
            have z4 := HZX.out.cell (v := 4) (by omega)
            have z5 := HZX.out.cell (v := 5) (by omega)
            have hzf := HZX.out.free
            go_wp2_with fail
            refine bodyPost_ret (v := .agg (words O3)) ?_ rfl ⟨O3, rfl, HN1.out, HN2.out, setWords_gr HGX.out (by omega) O3⟩
            rw [results_cell rfl]
            have := (HZX.out.copy O3).load
            unfold setWords at this
            simp [asAddr, Result.andThen, this]
end Go.Proofs.Ytadlnjglpigjmaa
