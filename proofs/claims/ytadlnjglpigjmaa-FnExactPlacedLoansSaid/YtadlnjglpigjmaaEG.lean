/- Rows of marks in the reference: append of a row to an empty list; walks of l3After, l3Join, l3Equal. -/
import Derived.Test.YtadlnjglpigjmaaED

import Derived.Test.YtadlnjglpigjmaaF3

import Derived.Deep.RegionHeld3

import Derived.BigQuiet

namespace Go.Proofs.Ytadlnjglpigjmaa

open Go.RowKit

/-- A row of n marks at the head of a block of c cells. -/
def RowE (w : World) (g n c : Nat) (F : Nat → Bool) : Prop := ∃ arr : Array Value, w.heap[g]? = some (.cells arr 4 (0, 0)) ∧ arr.size = c ∧ n ≤ c ∧ ∀ j, j < n → arr[j]? = some (.bool (F j))
theorem Row.e {w : World} {g n : Nat} {F : Nat → Bool} (h : Row w g n F) : RowE w g n n F := by
  obtain ⟨arr, h1, h2, h3⟩ := h
  simp only [List.length_map, List.length_range] at h2 h3
  refine ⟨arr, h1, h2, Nat.le_refl _, fun j hj => ?_⟩
  rw [h3 j hj]; simp
theorem RowE.cell {w : World} {g n c : Nat} {F : Nat → Bool} (h : RowE w g n c F) {j : Nat} (hj : j < n) : w.cell? ⟨g, j, none⟩ = some (.bool (F j)) := by
  obtain ⟨arr, h1, _, _, h3⟩ := h
  rw [cell_of_row w g j _ _ _ h1]; exact h3 j hj
theorem RowE.free {w : World} {g n c : Nat} {F : Nat → Bool} (h : RowE w g n c F) (j : Nat) : w.frozen? ⟨g, j, none⟩ = false := by
  obtain ⟨arr, h1, _⟩ := h
  simp [World.frozen?, h1]
theorem RowE.lt {w : World} {g n c : Nat} {F : Nat → Bool} (h : RowE w g n c F) : g < w.heap.size := by
  obtain ⟨arr, h1, _⟩ := h
  exact lt_of_block h1
theorem RowE.gr {w w' : World} {g n c : Nat} {F : Nat → Bool} {row : Option Nat} (h : RowE w g n c F) (hg : Gr w w' row) (hr : row ≠ some g) : RowE w' g n c F := by
  have hlt := h.lt
  obtain ⟨arr, h1, h2⟩ := h
  exact ⟨arr, by rw [hg.block g hlt (fun e => hr e.symm)]; exact h1, h2⟩
theorem RowE.gr0 {w w' : World} {g n c : Nat} {F : Nat → Bool} (h : RowE w g n c F) (hg : Gr w w' none) : RowE w' g n c F := h.gr hg (by simp)
theorem RowE.congr {w : World} {g n c : Nat} {F G : Nat → Bool} (h : RowE w g n c F) (e : ∀ j, j < n → F j = G j) : RowE w g n c G := by
  obtain ⟨arr, h1, h2, h4, h3⟩ := h
  exact ⟨arr, h1, h2, h4, fun j hj => by rw [h3 j hj, e j hj]⟩
theorem RowE.set {w : World} {g n c : Nat} {F : Nat → Bool} (h : RowE w g n c F) (k : Nat) (b : Bool) : RowE (w.setCell ⟨g, k, none⟩ (.bool b)) g n c (fun j => if j = k then b else F j) := by
  obtain ⟨arr, h1, h2, h4, h3⟩ := h
  refine ⟨_, row_set _ h1, by simpa using h2, h4, fun j hj => ?_⟩
  by_cases e : k = j
  · subst e; rw [Array.getElem?_setIfInBounds_self, if_pos (by omega)]; simp
  · have e2 : j ≠ k := fun h => e h.symm
    rw [Array.getElem?_setIfInBounds_ne e, h3 j hj]; simp [e2]
theorem RowE.of_own {w : World} {base g n c : Nat} {xs : List Value} {F : Nat → Bool} (h : w.ownsRow base 4 1 (.slice (some ⟨g, 0, none⟩) n c) n xs) (hx : ∀ j, j < n → xs[j]? = some (.bool (F j))) : RowE w g n c F ∧ base ≤ g := by
  obtain ⟨hl, ⟨hv, h0⟩ | ⟨g', cap, cur, hv, hbg, hg, hnc, hcm, hcs, htake⟩⟩ := h
  · simp at hv
  · simp only [Value.slice.injEq, Option.some.injEq, Addr.mk.injEq, and_true, true_and] at hv
    obtain ⟨rfl, rfl⟩ := hv
    refine ⟨⟨cur, hg, by simpa using hcs, hnc, fun j hj => ?_⟩, hbg⟩
    rw [← hx j hj, ← htake]
    rw [Nat.mul_one, ← Array.getElem?_toList, List.getElem?_take, if_pos hj]
theorem RowE.type {w : World} {g n c : Nat} {F : Nat → Bool} (h : RowE w g n c F) : ∃ cs, w.heap[g]? = some (.cells cs 4 (0, 0)) := by
  obtain ⟨arr, h1, _⟩ := h; exact ⟨arr, h1⟩
/-- append([]bool{}, row...), of a row that may be empty. -/
theorem app_e (w : World) {ops : Array Oper} {rest : List Oper} {o : Oper} {a : Act} {Q : Exit → Act → World → Prop} (hgd : o.guard = none) (s x : Operand)
    (ho : o.op = .call { callee := .builtin .append, args := #[s, x], argTypes := #[54, 54] })
    (g0 gs n c : Nat) (F : Nat → Bool) (hs : a.eval s = .slice (some ⟨g0, 0, none⟩) 0 0) (hg0 : w.heap[g0]? = some (.cells #[] 4 (0, 0)))
    (hx : a.eval x = .slice (some ⟨gs, 0, none⟩) n c) (hF : RowE w gs n c F) (hn2 : n ≤ 1000)
    (h : ∀ (g cap' : Nat) (w' : World), RowE w' g n cap' F → g0 ≤ g → Gr w w' (some g0) → wpList Try.prog ops Q rest (a.put o.dst (.slice (some ⟨g, 0, none⟩) n cap')) w') : wpList Try.prog ops Q (o :: rest) a w := by
  obtain ⟨i0, hi, hzz⟩ := Option.map_eq_some_iff.1 Binfo
  simp only [Prod.mk.injEq] at hzz
  obtain ⟨hz0, hz1, hz2⟩ := hzz
  have hlt0 : g0 < w.heap.size := lt_of_block hg0
  by_cases hn0 : n = 0
  · subst hn0
    refine wpList_plain hgd fun K hK => ?_
    have hrun : (Builtin.append_ #[54, 54] o.type #[.slice (some ⟨g0, 0, none⟩) 0 0, .slice (some ⟨gs, 0, none⟩) 0 c]).run Try.prog w = .ok (.slice (some ⟨g0, 0, none⟩) 0 0) w := by
      have := run_append_room_cells (P := Try.prog) w 54 o.type 4 i0 Try.underlying54 hi g0 0 0 0 ⟨gs, 0, none⟩ 0 c [] (by simp) (by simp) (by simp) (by simp) (by simp) (by simp)
      simpa [World.setCells] using this
    unfold Oper.wp
    simp [execOp, ho, resolve, invoke, builtin, hs, hx, hrun, Result.andThen]
    have := h g0 0 w ⟨#[], hg0, rfl, Nat.le_refl _, fun j hj => absurd hj (by omega)⟩ (Nat.le_refl _) (Gr.refl _ _)
    exact hK _ _ this
  have hn : 0 < n := by omega
  have hown : w.ownsRow g0 4 1 (.slice (some ⟨g0, 0, none⟩) 0 0) 0 [] := ⟨rfl, .inr ⟨g0, 0, #[], rfl, Nat.le_refl _, hg0, Nat.le_refl _, by unfold maxLen; omega, rfl, by simp⟩⟩
  refine app_own w hgd s x 54 ho g0 4 i0 _ 1 1 Try.underlying54 hi hz0 hz1 hz2 rfl (by decide) (some ⟨g0, 0, none⟩) 0 0 [] hs hown ⟨gs, 0, none⟩ n c ((List.range n).map fun j => .bool (F j)) hx (by simp) (fun j u hu => ?_) (fun u hu => ?_) (by unfold maxLen; omega) (by omega) (by omega) hn ?_
  · obtain ⟨hj, rfl⟩ := List.getElem?_eq_some_iff.1 hu
    have hj' : j < n := by simpa using hj
    have := hF.cell hj'
    simp only [List.getElem_map, List.getElem_range]
    by_cases e : j = 0
    · subst e; simpa [Addr.add] using this
    · simpa [Addr.add, e] using this
  · simp at hu; obtain ⟨k, _, rfl⟩ := hu; rfl
  · intro g cap' w' h1 h2 h3
    rw [Nat.zero_add] at h1 ⊢
    obtain ⟨hR, hb⟩ := RowE.of_own (F := F) h1 (fun j hj => by simp [hj])
    exact h g cap' w' hR hb h2
/-- A new row is handed back. -/
def RowedE (n : Nat) (f : Nat → Bool) (w : World) (e : Ending) (w' : World) : Prop := ∃ g c : Nat, e = .returned (.slice (some ⟨g, 0, none⟩) n c) ∧ RowE w' g n c f ∧ w.heap.size ≤ g ∧ Gr w w' none
/-- What has a value behind a point. -/
def aftE (T : List Int) (op x y : Int) (F : Nat → Bool) (v : Nat) : Bool := setsB op x v || (F v && !takesB T op x y v)
set_option maxRecDepth 100000 in
set_option maxHeartbeats 2000000 in
theorem l3After_any (T : List Int) (at' : Option Addr) (ct : Nat) (op x y n : Int) (nv : Value) (gs cs : Nat) (F : Nat → Bool) (w : World) (hT : InAt w Any T at') (hT6 : T.length ≤ 6) (hF : RowE w gs T.length cs F) (hx : -1 ≤ setOf op x ∧ setOf op x < T.length) :
    Calls Try.prog 91 #[.slice at' T.length ct, .agg #[.int .i64 op, .int .i64 x, .int .i64 y, .int .i64 n, nv], .slice (some ⟨gs, 0, none⟩) T.length cs] w (RowedE T.length (aftE T op x y F) w) := by
  have HTY := Lib.hid hT
  obtain ⟨sx, hsx⟩ : ∃ sx, setOf op x = sx := ⟨_, rfl⟩
  rw [hsx] at hx
  have HSX := Lib.hid hsx
  have hE1 : ((w.alloc (.cells #[.int .i64 op, .int .i64 x, .int .i64 y, .int .i64 n, nv] 67)).alloc (.cells #[] 4)).heap[w.heap.size]? = some (.cells #[.int .i64 op, .int .i64 x, .int .i64 y, .int .i64 n, nv] 67 (0, 0)) := heap2_0 _ _ _
  have hE2 : ((w.alloc (.cells #[.int .i64 op, .int .i64 x, .int .i64 y, .int .i64 n, nv] 67)).alloc (.cells #[] 4)).heap[w.heap.size + 1]? = some (.cells #[] 4 (0, 0)) := heap2_1 _ _ _
  have hgA : Gr w ((w.alloc (.cells #[.int .i64 op, .int .i64 x, .int .i64 y, .int .i64 n, nv] 67)).alloc (.cells #[] 4)) none := ((Gr.refl _ _).alloc _).alloc _
  have HGA := Lib.hid hgA
  have HFA := Lib.hid (hF.gr0 hgA)
  clear hT hsx hF hgA
  go_enter Try.func91, Try.ntmps91
  go_wp2_with (at_builtin; refine app_e _ rfl (.tmp 10) (.tmp 11) rfl (w.heap.size + 1) gs T.length cs F rfl hE2 rfl HFA.out (by omega) ?_; rintro g cap w2 hR2 hgg hg2)
  have HR2 := Lib.hid hR2
  have hg02 : Gr w w2 none := HGA.out.trans hg2 (fun r e => .inr (by cases e; omega))
  have HG2 := Lib.hid hg02
  have hEx : w2.heap[w.heap.size]? = some (.cells #[.int .i64 op, .int .i64 x, .int .i64 y, .int .i64 n, nv] 67 (0, 0)) := by
    rw [hg2.block w.heap.size (by simp; omega) (by simp)]; exact hE1
  have HEX := Lib.hid hEx
  clear hR2 hg2 hE1 hE2 hEx hg02 HFA HGA
  go_wp2_with fail
  go_loopw [8] (fun s wr => ∃ k : Nat, k ≤ T.length ∧ s = .int .i64 k ∧ RowE wr g T.length cap (fun j => F j && !(decide (j < k) && takesB T op x y j)) ∧ Gr w2 wr (some g)) (fun s _ => T.length - (intOf s).toNat)
  case atStart => exact ⟨0, Nat.zero_le _, rfl, HR2.out.congr (fun j _ => by simp), Gr.refl _ _⟩
  case round =>
    obtain ⟨k, hk, rfl, hR, hg⟩ := hrel
    have HR := Lib.hid hR
    have HG := Lib.hid hg
    have hgN : Gr w wr none := HG2.out.trans hg (fun r e => .inr (by cases e; omega))
    have HGN := Lib.hid hgN
    have hne : w.heap.size ≠ g := by omega
    have x0 : wr.cell? ⟨w.heap.size, 0, none⟩ = some (.int .i64 op) := hg.cell (p := ⟨w.heap.size, 0, none⟩) (cell_of_row _ _ _ _ _ _ HEX.out) (by simp; omega)
    have x1 : wr.cell? ⟨w.heap.size, 1, none⟩ = some (.int .i64 x) := hg.cell (p := ⟨w.heap.size, 1, none⟩) (cell_of_row _ _ _ _ _ _ HEX.out) (by simp; omega)
    have x2 : wr.cell? ⟨w.heap.size, 2, none⟩ = some (.int .i64 y) := hg.cell (p := ⟨w.heap.size, 2, none⟩) (cell_of_row _ _ _ _ _ _ HEX.out) (by simp; omega)
    have x3 : wr.cell? ⟨w.heap.size, 3, none⟩ = some (.int .i64 n) := hg.cell (p := ⟨w.heap.size, 3, none⟩) (cell_of_row _ _ _ _ _ _ HEX.out) (by simp; omega)
    have x4 : wr.cell? ⟨w.heap.size, 4, none⟩ = some nv := hg.cell (p := ⟨w.heap.size, 4, none⟩) (cell_of_row _ _ _ _ _ _ HEX.out) (by simp; omega)
    clear hR hg hgN
    by_cases hlt : k < T.length
    · obtain ⟨tb, htb⟩ : ∃ tb, takesB T op x y k = tb := ⟨_, rfl⟩
      have hte := take_eq (op := op) (x := x) (y := y) hlt
      rw [htb] at hte
      obtain ⟨UU, hUU⟩ : ∃ UU, useK T[k] op x y k = UU := ⟨_, rfl⟩
      rw [hUU] at hte
      have HUU := Lib.hid hUU
      have HTB := Lib.hid htb
      clear hUU htb
      go_wp2_with fail
      refine (l3Use_any T at' ct op x y n nv k hlt _ (HTY.out.gr0 HGN.out) (by omega)).mono ?_
      rw [HUU.out]
      rintro e w3 ⟨rfl, hg3⟩
      have HR3 := Lib.hid (HR.out.gr0 hg3)
      have HG3 := Lib.hid (HG.out.trans hg3 (fun r e => by simp at e))
      have f3 := HR3.out.free k
      have c3 := HR3.out.cell hlt
      obtain ⟨z, hz⟩ : ∃ z, (F k && !(decide (k < k) && takesB T op x y k)) = z := ⟨_, rfl⟩
      rw [hz] at c3
      clear x0 x1 x2 x3 x4 hg3 hz
      cases tb with
      | true =>
        have HN := Lib.hid (show RowE (w3.setCell ⟨g, k, none⟩ (.bool false)) g T.length cap (fun j => F j && !(decide (j < k + 1) && takesB T op x y j)) from (HR3.out.set k false).congr fun j _ => by
          by_cases e : j = k
          · subst e; rw [HTB.out]; simp
          · have : (j < k + 1) = (j < k) := by apply propext; omega
            simp [e, this])
        have HGN2 := Lib.hid (HG3.out.setOwn (p := ⟨g, k, none⟩) rfl (.bool false))
        go_wp2_with fail
        go_roundw
        case rel => exact ⟨k + 1, by omega, by go_num, HN.out, HGN2.out⟩
        case measure => simp [intOf]; omega
      | false =>
        have HN := Lib.hid (show RowE w3 g T.length cap (fun j => F j && !(decide (j < k + 1) && takesB T op x y j)) from HR3.out.congr fun j _ => by
          by_cases e : j = k
          · subst e; rw [HTB.out]; simp
          · have : (j < k + 1) = (j < k) := by apply propext; omega
            simp [this])
        go_wp2_with fail
        go_roundw
        case rel => exact ⟨k + 1, by omega, by go_num, HN.out, HG3.out⟩
        case measure => simp [intOf]; omega
    · obtain rfl : k = T.length := by omega
      go_wp2_with fail
      refine (l3Set_any op x y n nv _).mono ?_
      rw [HSX.out]
      rintro e w3 ⟨rfl, hg3⟩
      have HR3 := Lib.hid (HR.out.gr0 hg3)
      have HG3 := Lib.hid (HGN.out.trans0 hg3)
      clear x0 x1 x2 x3 x4 hg3
      by_cases h0 : 0 ≤ sx
      · obtain ⟨sj, rfl⟩ := Int.eq_ofNat_of_zero_le h0
        have hsj : sj < T.length := by omega
        have f3 := HR3.out.free sj
        have c3 := HR3.out.cell hsj
        obtain ⟨z, hz⟩ : ∃ z, (F sj && !(decide (sj < T.length) && takesB T op x y sj)) = z := ⟨_, rfl⟩
        rw [hz] at c3
        have HN := Lib.hid (show RowE (w3.setCell ⟨g, sj, none⟩ (.bool true)) g T.length cap (aftE T op x y F) from (HR3.out.set sj true).congr fun j hj => by
          unfold aftE setsB
          rw [HSX.out]
          by_cases e : j = sj
          · subst e; simp
          · have e2 : ¬ ((sj : Nat) : Int) = (j : Int) := by omega
            simp [e, e2, hj])
        have HGN2 := Lib.hid (show Gr w (w3.setCell ⟨g, sj, none⟩ (.bool true)) none from HG3.out.setNew (p := ⟨g, sj, none⟩) (by show w.heap.size ≤ g; omega) (.bool true))
        clear hz
        go_wp2_with fail
        go_ret
        exact ⟨g, cap, rfl, HN.out, by omega, HGN2.out⟩
      · go_wp2_with fail
        go_ret
        refine ⟨g, cap, rfl, HR3.out.congr (fun j hj => ?_), by omega, HG3.out⟩
        unfold aftE setsB
        rw [HSX.out]
        have e2 : ¬ sx = (j : Int) := by omega
        simp [e2, hj]
set_option maxRecDepth 100000 in
set_option maxHeartbeats 2000000 in
theorem l3JoinNew_any (all : Bool) (N ga ca : Nat) (H : Nat → Bool) (w : World) (hH : RowE w ga N ca H) (hN : N ≤ 6) :
    Calls Try.prog 92 #[.slice none 0 0, .slice (some ⟨ga, 0, none⟩) N ca, .bool all] w (RowedE N H w) := by
  have hE2 : (w.alloc (.cells #[] 4)).heap[w.heap.size]? = some (.cells #[] 4 (0, 0)) := heap1_0 _ _
  have hgA : Gr w (w.alloc (.cells #[] 4)) none := (Gr.refl _ _).alloc _
  have HHA := Lib.hid (hH.gr0 hgA)
  go_enter Try.func92, Try.ntmps92
  go_wp2_with (at_builtin; refine app_e _ rfl (.tmp 9) (.tmp 10) rfl w.heap.size ga N ca H rfl hE2 rfl HHA.out (by omega) ?_; rintro g cap w2 hR2 hgg hg2)
  have HR2 := Lib.hid hR2
  have hg02 : Gr w w2 none := hgA.trans hg2 (fun r e => .inr (by cases e; omega))
  clear hR2 hg2 hE2
  go_wp2_with fail
  go_loopw [8] (fun s wr => s = .int .i64 0 ∧ wr = w2) (fun s _ => 0)
  case atStart => exact ⟨rfl, rfl⟩
  case round =>
    obtain ⟨rfl, rfl⟩ := hrel
    go_wp2_with fail
    go_ret
    exact ⟨g, cap, rfl, HR2.out, hgg, hg02⟩
set_option maxRecDepth 100000 in
set_option maxHeartbeats 2000000 in
theorem l3Join_any (all : Bool) (N go co ga ca : Nat) (G H : Nat → Bool) (w : World) (hG : RowE w go N co G) (hH : RowE w ga N ca H) (hN : N ≤ 6) :
    Calls Try.prog 92 #[.slice (some ⟨go, 0, none⟩) N co, .slice (some ⟨ga, 0, none⟩) N ca, .bool all] w (RowedE N (joinR all G H) w) := by
  have hE2 : (w.alloc (.cells #[] 4)).heap[w.heap.size]? = some (.cells #[] 4 (0, 0)) := heap1_0 _ _
  have hgA : Gr w (w.alloc (.cells #[] 4)) none := (Gr.refl _ _).alloc _
  have HHA := Lib.hid (hH.gr0 hgA)
  have HG0 := Lib.hid hG
  have HH0 := Lib.hid hH
  clear hG hH
  go_enter Try.func92, Try.ntmps92
  go_wp2_with (at_builtin; refine app_e _ rfl (.tmp 9) (.tmp 10) rfl w.heap.size ga N ca H rfl hE2 rfl HHA.out (by omega) ?_; rintro g cap w2 hR2 hgg hg2)
  have HR2 := Lib.hid hR2
  have hg02 : Gr w w2 none := hgA.trans hg2 (fun r e => .inr (by cases e; omega))
  have HG2 := Lib.hid hg02
  clear hR2 hg2 hE2 hgA hg02
  go_wp2_with fail
  go_loopw [8] (fun s wr => ∃ k : Nat, k ≤ N ∧ s = .int .i64 k ∧ RowE wr g N cap (fun j => if j < k then joinR all G H j else H j) ∧ Gr w2 wr (some g)) (fun s _ => N - (intOf s).toNat)
  case atStart => exact ⟨0, Nat.zero_le _, rfl, HR2.out.congr (fun j _ => by simp), Gr.refl _ _⟩
  case round =>
    obtain ⟨k, hk, rfl, hR, hg⟩ := hrel
    have HR := Lib.hid hR
    have HG := Lib.hid hg
    have hgN : Gr w wr none := HG2.out.trans hg (fun r e => .inr (by cases e; omega))
    have HGN := Lib.hid hgN
    by_cases hlt : k < N
    · have c0 := (HG0.out.gr0 hgN).cell hlt
      have c1 := (HH0.out.gr0 hgN).cell hlt
      have c2 := hR.cell hlt
      have f2 := hR.free k
      obtain ⟨z, hz⟩ : ∃ z, (if k < k then joinR all G H k else H k) = z := ⟨_, rfl⟩
      simp only [hz] at c2
      have HN := Lib.hid (show RowE (wr.setCell ⟨g, k, none⟩ (.bool (joinR all G H k))) g N cap (fun j => if j < k + 1 then joinR all G H j else H j) from (HR.out.set k _).congr fun j _ => by
          by_cases e : j = k
          · subst e; simp
          · have : (j < k + 1) = (j < k) := by apply propext; omega
            simp [e, this])
      have HGN2 := Lib.hid (HG.out.setOwn (p := ⟨g, k, none⟩) rfl (.bool (joinR all G H k)))
      obtain ⟨x, hx⟩ : ∃ x, G k = x := ⟨_, rfl⟩
      obtain ⟨y, hy⟩ : ∃ y, H k = y := ⟨_, rfl⟩
      have hj : joinR all G H k = if all = true then x && y else x || y := by unfold joinR; rw [hx, hy]
      rw [hx] at c0
      rw [hy] at c1
      rw [hj] at HN HGN2
      clear hR hg hgN hz hx hy hj
      cases all <;> cases x <;> cases y
      all_goals
        go_wp2_with fail
        go_roundw
        case rel => exact ⟨k + 1, by omega, by go_num, HN.out, HGN2.out⟩
        case measure => simp [intOf]; omega
    · obtain rfl : k = N := by omega
      go_wp2_with fail
      go_ret
      exact ⟨g, cap, rfl, HR.out.congr (fun j hj => by simp [hj]), hgg, HGN.out⟩
/-- Are two rows the same? -/
def sameR (N : Nat) (G H : Nat → Bool) : Bool := (List.range N).all fun v => G v == H v
theorem sameR_iff {N : Nat} {G H : Nat → Bool} : sameR N G H = true ↔ ∀ v, v < N → G v = H v := by
  unfold sameR
  rw [List.all_eq_true]
  constructor
  · exact fun h v hv => by have := h v (List.mem_range.2 hv); simpa using this
  · exact fun h v hv => by simp [h v (List.mem_range.1 hv)]
set_option maxRecDepth 100000 in
set_option maxHeartbeats 2000000 in
theorem l3Equal_any (N ga ca gb cb : Nat) (G H : Nat → Bool) (w : World) (hG : RowE w ga N ca G) (hH : RowE w gb N cb H) (hN : N ≤ 6) :
    Calls Try.prog 93 #[.slice (some ⟨ga, 0, none⟩) N ca, .slice (some ⟨gb, 0, none⟩) N cb] w fun e w' => e = .returned (.bool (sameR N G H)) ∧ Gr w w' none := by
  have HG := Lib.hid hG
  have HH := Lib.hid hH
  clear hG hH
  go_enter Try.func93, Try.ntmps93
  go_wp2_with fail
  go_loopw [5] (fun s wr => ∃ k : Nat, k ≤ N ∧ s = .int .i64 k ∧ (∀ v, v < k → G v = H v) ∧ Gr w wr none) (fun s _ => N - (intOf s).toNat)
  case atStart => exact ⟨0, Nat.zero_le _, rfl, fun v hv => absurd hv (by omega), Gr.refl _ _⟩
  case round =>
    obtain ⟨k, hk, rfl, hall, hg⟩ := hrel
    have HA := Lib.hid hall
    clear hall
    by_cases hlt : k < N
    · have c0 := (HG.out.gr0 hg).cell hlt
      have c1 := (HH.out.gr0 hg).cell hlt
      obtain ⟨x, hx⟩ : ∃ x, G k = x := ⟨_, rfl⟩
      obtain ⟨y, hy⟩ : ∃ y, H k = y := ⟨_, rfl⟩
      rw [hx] at c0
      rw [hy] at c1
      have HX := Lib.hid hx
      have HY := Lib.hid hy
      clear hx hy
      by_cases e : x = y
      · subst e
        have HN := Lib.hid (show ∀ v, v < k + 1 → G v = H v from fun v hv => by
          by_cases e : v = k
          · subst e; rw [HX.out, HY.out]
          · exact HA.out v (by omega))
        go_wp2_with fail
        go_quiet (fail)
        all_goals
          go_wp2_with fail
          go_roundw
          case rel => exact ⟨k + 1, by omega, by go_num, HN.out, hg.drewN _⟩
          case measure => simp [intOf]; omega
      · have HF := Lib.hid (show sameR N G H = false from by
          cases h : sameR N G H with
          | false => rfl
          | true => exact absurd ((HX.out.symm.trans (sameR_iff.1 h k hlt)).trans HY.out) e)
        have hb : (x == y) = false := beq_eq_false_iff_ne.2 e
        go_wp2_with fail
        go_quiet (fail)
        all_goals
          go_wp2_with fail
          go_ret
          exact ⟨ret_bool HF.out.symm, hg.drewN _⟩
    · obtain rfl : k = N := by omega
      have HT := Lib.hid (show sameR k G H = true from sameR_iff.2 HA.out)
      go_wp2_with fail
      go_ret
      exact ⟨ret_bool (by rw [HT.out]), hg⟩
end Go.Proofs.Ytadlnjglpigjmaa
