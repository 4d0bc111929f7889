/- Rows of marks, tables of such rows, words in an array. Walks of l3Numbers, l4Add, loanBits. -/
import Derived.Test.YtpnaeijkllmihaaBW

import Derived.Test.YtpnaeijkllmihaaN6

namespace Go.Proofs.Ytpnaeijkllmihaa

open Go.RowKit

/-! ### A row of marks -/

def Row (w : World) (g n : Nat) (F : Nat → Bool) : Prop := Flags w g ((List.range n).map F)
theorem Row.cell {w : World} {g n : Nat} {F : Nat → Bool} (h : Row w g n F) {j : Nat} (hj : j < n) : w.cell? ⟨g, j, none⟩ = some (.bool (F j)) := by
  have := Flags.cell h (j := j) (by simpa using hj)
  simpa using this
theorem Row.free {w : World} {g n : Nat} {F : Nat → Bool} (h : Row w g n F) (j : Nat) : w.frozen? ⟨g, j, none⟩ = false := Flags.free h j
theorem Row.lt {w : World} {g n : Nat} {F : Nat → Bool} (h : Row w g n F) : g < w.heap.size := Flags.lt h
theorem Row.gr {w w' : World} {g n : Nat} {F : Nat → Bool} {row : Option Nat} (h : Row w g n F) (hg : Gr w w' row) (hr : row ≠ some g) : Row w' g n F := Flags.gr h hg hr
theorem Row.gr0 {w w' : World} {g n : Nat} {F : Nat → Bool} (h : Row w g n F) (hg : Gr w w' none) : Row w' g n F := Flags.gr h hg (by simp)
theorem Row.congr {w : World} {g n : Nat} {F G : Nat → Bool} (h : Row w g n F) (e : ∀ j, j < n → F j = G j) : Row w g n G := by
  have : (List.range n).map F = (List.range n).map G := List.map_congr_left fun j hj => e j (by simpa using hj)
  unfold Row at *
  rw [← this]; exact h
theorem Row.set {w : World} {g n : Nat} {F : Nat → Bool} (h : Row w g n F) (k : Nat) (b : Bool) : Row (w.setCell ⟨g, k, none⟩ (.bool b)) g n (fun j => if j = k then b else F j) := by
  have h1 := Flags.set h (k := k) b
  have e : ((List.range n).map F).set k b = (List.range n).map (fun j => if j = k then b else F j) := by
    refine List.ext_getElem (by simp) fun j h1 h2 => ?_
    rw [List.getElem_set]
    by_cases e : k = j
    · subst e; simp
    · have : j ≠ k := fun h => e h.symm
      simp [e, this]
  rw [e] at h1
  exact h1
theorem Row.new (w : World) (n : Nat) : Row (w.alloc (.cells (madeCells #[.bool false] n) 4)) w.heap.size n (fun _ => false) := by
  have := Flags.new w n
  have e : List.replicate n false = (List.range n).map (fun _ => false) := by
    refine List.ext_getElem (by simp) fun j h1 h2 => by simp
  rw [e] at this
  exact this
theorem Row.type {w : World} {g n : Nat} {F : Nat → Bool} (h : Row w g n F) : ∃ cs, w.heap[g]? = some (.cells cs 4 (0, 0)) := by
  obtain ⟨arr, h1, _⟩ := h; exact ⟨arr, h1⟩
theorem Row.unique {w : World} {g n : Nat} {F G : Nat → Bool} (h : Row w g n F) (h' : Row w g n G) {j : Nat} (hj : j < n) : F j = G j := by
  have h1 := h.cell hj
  rw [h'.cell hj] at h1
  simpa using h1.symm

/-! ### Walks on rows -/

set_option maxRecDepth 100000 in
set_option maxHeartbeats 1000000 in
theorem l3Numbers_any (gf n c : Nat) (F : Nat → Bool) (w : World) (hF : Row w gf n F) (hn : n ≤ 1000) :
    Calls Try.prog 82 #[.slice (some ⟨gf, 0, none⟩) n c] w (HandI (coll F n) w) := by
  have HF := Lib.hid (fun k (hk : k < n) => hF.cell hk)
  clear hF
  have hG1 : Gr w (w.alloc (.cells #[] 3)) none := (Gr.refl _ _).alloc _
  have hE : (w.alloc (.cells #[] 3)).heap[w.heap.size]? = some (.cells #[] 3 (0, 0)) := heap1_0 _ _
  go_enter Try.func82, Try.ntmps82
  go_wp2_with fail
  generalize w.alloc (.cells #[] 3) = w1 at *
  have hC0 : Coll w1 w.heap.size w1.heap.size F 0 (some ⟨w.heap.size, 0, none⟩) 0 0 := Coll.empty hG1.size _ (Nat.le_refl _) hE
  go_loopw [3, 4] (fun v i wr => ∃ (k m cap : Nat) (ao : Option Addr), k ≤ n ∧ i = .int .i64 k ∧ v = .slice ao m cap ∧ Coll wr w.heap.size w1.heap.size F k ao m cap ∧ Gr w1 wr none) (fun _ i _ => n - (intOf i).toNat)
  case atStart => exact ⟨0, 0, 0, _, Nat.zero_le _, rfl, rfl, hC0, Gr.refl _ _⟩
  case round =>
    obtain ⟨k, m, cap, ao, hkl, rfl, rfl, hCo, hgr⟩ := hrel
    have hnk := hCo.le
    have HCo := Lib.hid hCo
    clear hCo hC0
    by_cases hlt : k < n
    · have hck := (hG1.trans0 hgr).cell (HF.out k hlt) (by simp)
      cases hd : F k with
      | true =>
        have HD := Lib.hid hd
        rw [hd] at hck
        clear hd
        go_wp2_with (at_builtin; refine app_c wr _ rfl (.tmp 16) (.tmp 18) rfl w.heap.size w1.heap.size ao cap m _ k rfl HCo.out ((Gr.refl _ _).alloc _) HD.out wr.heap.size 1 rfl (cell_of_row _ _ _ _ _ _ (heap1_0 _ _)) (by omega) hgr.size ?_; rintro g cap' w4 hC4 hg4)
        go_roundw
        case rel => exact ⟨k + 1, m + 1, cap', _, by omega, by go_num, rfl, hC4, hg4 _ (hgr.alloc _) (Nat.le_refl _)⟩
        case measure => simp [intOf]; omega
      | false =>
        have HD := Lib.hid hd
        rw [hd] at hck
        clear hd
        go_wp2_with fail
        go_roundw
        case rel => exact ⟨k + 1, m, cap, ao, by omega, by go_num, rfl, HCo.out.no HD.out, hgr⟩
        case measure => simp [intOf]; omega
    · obtain rfl : k = n := by omega
      go_wp2_with fail
      go_ret
      exact HCo.out.hand rfl (hG1.trans0 hgr)
def Added (gt n : Nat) (F G : Nat → Bool) (w : World) (e : Ending) (w' : World) : Prop := e = .returned (.tuple #[]) ∧ Row w' gt n (fun j => F j || G j) ∧ Gr w w' (some gt)
set_option maxRecDepth 100000 in
set_option maxHeartbeats 1000000 in
theorem l4Add_any (gt gs n ct cs : Nat) (F G : Nat → Bool) (w : World) (hF : Row w gt n F) (hG : Row w gs n G) (hn : n ≤ 1000) :
    Calls Try.prog 94 #[.slice (some ⟨gt, 0, none⟩) n ct, .slice (some ⟨gs, 0, none⟩) n cs] w (Added gt n F G w) := by
  go_enter Try.func94, Try.ntmps94
  go_wp2_with fail
  go_loopw [4] (fun i wr => ∃ k : Nat, k ≤ n ∧ i = .int .i64 k ∧ Row wr gt n (fun j => F j || (decide (j < k) && G j)) ∧ Gr w wr (some gt)) (fun i _ => n - (intOf i).toNat)
  case atStart => exact ⟨0, Nat.zero_le _, rfl, hF.congr (fun j _ => by simp), Gr.refl _ _⟩
  case round =>
    obtain ⟨k, hkl, rfl, hR, hg⟩ := hrel
    have HR := Lib.hid hR
    have HG := Lib.hid hg
    by_cases hlt : k < n
    · have c0 : wr.cell? ⟨gt, k, none⟩ = some (.bool (F k)) := by have := hR.cell hlt; simpa using this
      have c1 : wr.cell? ⟨gs, k, none⟩ = some (.bool (G k)) := by
        by_cases e : gt = gs
        · subst e
          rw [c0, hF.unique hG hlt]
        · exact hg.cell (hG.cell hlt) (by simpa using e)
      have hfz := hR.free k
      have HN := Lib.hid (show Row (wr.setCell ⟨gt, k, none⟩ (.bool (F k || G k))) gt n (fun j => F j || (decide (j < k + 1) && G j)) from (hR.set k (F k || G k)).congr (fun j _ => by
        by_cases e : j = k
        · subst e; simp
        · have : (j < k + 1) = (j < k) := by apply propext; omega
          simp [e, this]))
      have hgs : Gr w (wr.setCell ⟨gt, k, none⟩ (.bool (F k || G k))) (some gt) := hg.setOwn rfl _
      have HS := Lib.hid hgs
      clear hR hg hF hG hgs
      obtain ⟨x, hx⟩ : ∃ x, F k = x := ⟨_, rfl⟩
      obtain ⟨y, hy⟩ : ∃ y, G k = y := ⟨_, rfl⟩
      rw [hx] at c0
      rw [hy] at c1
      rw [hx, hy] at HN HS
      clear hx hy
      cases x <;> cases y
      all_goals
        go_wp2_with fail
        go_roundw
        case rel => exact ⟨k + 1, by omega, by go_num, HN.out, HS.out⟩
        case measure => simp [intOf]; omega
    · obtain rfl : k = n := by omega
      clear hR hg
      go_wp2_with fail
      go_end0
      exact ⟨rfl, HR.out.congr (fun j hj => by simp [hj]), HG.out⟩
set_option maxRecDepth 100000 in
set_option maxHeartbeats 1000000 in
theorem loanBits_any (x : Nat) (w : World) (hx : x < 2 ^ 64) :
    Calls Try.prog 64 #[.int .u64 x] w (HandI (coll x.testBit 64) w) := by
  have hC0 : Coll w w.heap.size w.heap.size x.testBit 0 none 0 0 := Coll.nil _ (Nat.le_refl _) _
  have HX := Lib.hid hx
  clear hx
  go_enter Try.func64, Try.ntmps64
  go_wp2_with fail
  go_loopw [3, 5] (fun v i wr => ∃ (k m cap : Nat) (ao : Option Addr), k ≤ 64 ∧ i = .int .i64 k ∧ v = .slice ao m cap ∧ Coll wr w.heap.size w.heap.size x.testBit k ao m cap ∧ Gr w wr none) (fun _ i _ => 64 - (intOf i).toNat)
  case atStart => exact ⟨0, 0, 0, _, Nat.zero_le _, rfl, rfl, hC0, Gr.refl _ _⟩
  case round =>
    obtain ⟨k, m, cap, ao, hkl, rfl, rfl, hCo, hgr⟩ := hrel
    have hnk := hCo.le
    have HCo := Lib.hid hCo
    clear hCo hC0
    by_cases hlt : k < 64
    · have hbit : bits BinOp.and IntKind.u64 ((x : Int) / 2 ^ k) 1 = if x.testBit k then 1 else 0 := by
        rw [show (x : Int) / 2 ^ k = ((x / 2 ^ k : Nat) : Int) from by simp]
        exact u64_bit (k := k) HX.out
      cases hd : x.testBit k with
      | true =>
        have HD := Lib.hid hd
        rw [hd, if_pos rfl] at hbit
        clear hd
        go_wp2_with (at_builtin; refine app_c wr _ rfl (.tmp 13) (.tmp 15) rfl w.heap.size w.heap.size ao cap m _ k rfl HCo.out ((Gr.refl _ _).alloc _) HD.out wr.heap.size 1 rfl (cell_of_row _ _ _ _ _ _ (heap1_0 _ _)) (by omega) hgr.size ?_; rintro g cap' w4 hC4 hg4)
        go_roundw
        case rel => exact ⟨k + 1, m + 1, cap', _, by omega, by go_num, rfl, hC4, hg4 _ (hgr.alloc _) (Nat.le_refl _)⟩
        case measure => simp [intOf]; omega
      | false =>
        have HD := Lib.hid hd
        rw [hd, if_neg (by simp)] at hbit
        clear hd
        go_wp2_with fail
        go_roundw
        case rel => exact ⟨k + 1, m, cap, ao, by omega, by go_num, rfl, HCo.out.no HD.out, hgr⟩
        case measure => simp [intOf]; omega
    · obtain rfl : k = 64 := by omega
      go_wp2_with fail
      go_ret
      exact HCo.out.hand rfl hgr
end Go.Proofs.Ytpnaeijkllmihaa
