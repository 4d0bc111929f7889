/- Rows of marks with room behind them; rows that are only read. Walk of l4Add on them. -/
/- Walk of l10Merge of the reference. -/
/- Walks of l10Value and l10After of the reference. -/
/- Walk of l10After of the reference. -/
import Derived.Test.YtdnhinkjmjpnnaaF3

import Derived.Test.YtdnhinkjmjpnnaaDI

namespace Go.Proofs.Ytdnhinkjmjpnnaa

open Go.RowKit

/-- A row of n marks at the head of a block of c cells. -/
def RowC (w : World) (g n c : Nat) (F : Nat → Bool) : Prop := ∃ arr : Array Value, w.heap[g]? = some (.cells arr 4 (0, 0)) ∧ arr.size = c ∧ n ≤ c ∧ ∀ j, j < n → arr[j]? = some (.bool (F j))
theorem Row.c {w : World} {g n : Nat} {F : Nat → Bool} (h : Row w g n F) : RowC w g n n F := by
  obtain ⟨arr, h1, h2, h3⟩ := h
  simp only [List.length_map, List.length_range] at h2 h3
  refine ⟨arr, h1, h2, Nat.le_refl _, fun j hj => ?_⟩
  rw [h3 j hj]; simp
theorem RowC.row {w : World} {g n : Nat} {F : Nat → Bool} (h : RowC w g n n F) : Row w g n F := by
  obtain ⟨arr, h1, h2, _, h3⟩ := h
  refine ⟨arr, h1, by simpa using h2, fun j hj => ?_⟩
  rw [h3 j (by simpa using hj)]; simp
theorem RowC.cell {w : World} {g n c : Nat} {F : Nat → Bool} (h : RowC w g n c F) {j : Nat} (hj : j < n) : w.cell? ⟨g, j, none⟩ = some (.bool (F j)) := by
  obtain ⟨arr, h1, _, _, h3⟩ := h
  rw [cell_of_row w g j _ _ _ h1]; exact h3 j hj
theorem RowC.free {w : World} {g n c : Nat} {F : Nat → Bool} (h : RowC w g n c F) (j : Nat) : w.frozen? ⟨g, j, none⟩ = false := by
  obtain ⟨arr, h1, _⟩ := h
  simp [World.frozen?, h1]
theorem RowC.lt {w : World} {g n c : Nat} {F : Nat → Bool} (h : RowC w g n c F) : g < w.heap.size := by
  obtain ⟨arr, h1, _⟩ := h
  exact lt_of_block h1
theorem RowC.gr {w w' : World} {g n c : Nat} {F : Nat → Bool} {row : Option Nat} (h : RowC w g n c F) (hg : Gr w w' row) (hr : row ≠ some g) : RowC w' g n c F := by
  have hlt := h.lt
  obtain ⟨arr, h1, h2⟩ := h
  exact ⟨arr, by rw [hg.block g hlt (fun e => hr e.symm)]; exact h1, h2⟩
theorem RowC.gr0 {w w' : World} {g n c : Nat} {F : Nat → Bool} (h : RowC w g n c F) (hg : Gr w w' none) : RowC w' g n c F := h.gr hg (by simp)
theorem RowC.wr {P : Nat → Prop} {w w' : World} {g n c : Nat} {F : Nat → Bool} (h : RowC w g n c F) (hw : Wr P w w') (hn : ¬ P g) : RowC w' g n c F := by
  obtain ⟨arr, h1, h2⟩ := h
  exact ⟨arr, by rw [hw.block g hn]; exact h1, h2⟩
theorem RowC.congr {w : World} {g n c : Nat} {F G : Nat → Bool} (h : RowC w g n c F) (e : ∀ j, j < n → F j = G j) : RowC w g n c G := by
  obtain ⟨arr, h1, h2, h4, h3⟩ := h
  exact ⟨arr, h1, h2, h4, fun j hj => by rw [h3 j hj, e j hj]⟩
theorem RowC.set {w : World} {g n c : Nat} {F : Nat → Bool} (h : RowC w g n c F) (k : Nat) (b : Bool) (hk : k < n) : RowC (w.setCell ⟨g, k, none⟩ (.bool b)) g n c (fun j => if j = k then b else F j) := by
  obtain ⟨arr, h1, h2, h4, h3⟩ := h
  refine ⟨_, row_set _ h1, by simpa using h2, h4, fun j hj => ?_⟩
  by_cases e : k = j
  · subst e; rw [Array.getElem?_setIfInBounds_self, if_pos (by omega)]; simp
  · have e2 : j ≠ k := fun h => e h.symm
    rw [Array.getElem?_setIfInBounds_ne e, h3 j hj]; simp [e2]
theorem RowC.unique {w : World} {g n c c' : Nat} {F G : Nat → Bool} (h : RowC w g n c F) (h' : RowC w g n c' G) {j : Nat} (hj : j < n) : F j = G j := by
  have h1 := h.cell hj
  rw [h'.cell hj] at h1
  simpa using h1.symm
theorem RowC.of_own {w : World} {base g n c : Nat} {xs : List Value} {F : Nat → Bool} (h : w.ownsRow base 4 1 (.slice (some ⟨g, 0, none⟩) n c) n xs) (hx : ∀ j, j < n → xs[j]? = some (.bool (F j))) : RowC w g n c F ∧ base ≤ g := by
  obtain ⟨hl, ⟨hv, h0⟩ | ⟨g', cap, cur, hv, hbg, hg, hnc, hcm, hcs, htake⟩⟩ := h
  · simp at hv
  · simp only [Value.slice.injEq, Option.some.injEq, Addr.mk.injEq, and_true, true_and] at hv
    obtain ⟨rfl, rfl⟩ := hv
    refine ⟨⟨cur, hg, by simpa using hcs, hnc, fun j hj => ?_⟩, hbg⟩
    rw [← hx j hj, ← htake]
    rw [Nat.mul_one, ← Array.getElem?_toList, List.getElem?_take, if_pos hj]
def AddedC (gt n ct : Nat) (F G : Nat → Bool) (w : World) (e : Ending) (w' : World) : Prop := e = .returned (.tuple #[]) ∧ RowC w' gt n ct (fun j => F j || G j) ∧ Gr w w' (some gt)
set_option maxRecDepth 100000 in
set_option maxHeartbeats 1000000 in
theorem l4AddC_any (gt gs n ct cs : Nat) (F G : Nat → Bool) (w : World) (hF : RowC w gt n ct F) (hG : RowC w gs n cs G) (hn : n ≤ 1000) :
    Calls Try.prog 131 #[.slice (some ⟨gt, 0, none⟩) n ct, .slice (some ⟨gs, 0, none⟩) n cs] w (AddedC gt n ct F G w) := by
  go_enter Try.func131, Try.ntmps131
  go_wp2_with fail
  go_loopw [4] (fun i wr => ∃ k : Nat, k ≤ n ∧ i = .int .i64 k ∧ RowC wr gt n ct (fun j => F j || (decide (j < k) && G j)) ∧ Gr w wr (some gt)) (fun i _ => n - (intOf i).toNat)
  case atStart => exact ⟨0, Nat.zero_le _, rfl, hF.congr (fun j _ => by simp), Gr.refl _ _⟩
  case round =>
    obtain ⟨k, hkl, rfl, hR, hg⟩ := hrel
    have HR := Lib.hid hR
    have HG := Lib.hid hg
    by_cases hlt : k < n
    · have c0 : wr.cell? ⟨gt, k, none⟩ = some (.bool (F k)) := by have := hR.cell hlt; simpa using this
      have c1 : wr.cell? ⟨gs, k, none⟩ = some (.bool (G k)) := by
        by_cases e : gt = gs
        · subst e
          rw [c0]; exact congrArg (fun z => some (Value.bool z)) (hF.unique hG hlt)
        · exact hg.cell (hG.cell hlt) (by simpa using e)
      have hfz := hR.free k
      have HN := Lib.hid (show RowC (wr.setCell ⟨gt, k, none⟩ (.bool (F k || G k))) gt n ct (fun j => F j || (decide (j < k + 1) && G j)) from (hR.set k (F k || G k) hlt).congr (fun j _ => by
        by_cases e : j = k
        · subst e; simp
        · have : (j < k + 1) = (j < k) := by apply propext; omega
          simp [e, this]))
      have hgs : Gr w (wr.setCell ⟨gt, k, none⟩ (.bool (F k || G k))) (some gt) := hg.setOwn rfl _
      have HS := Lib.hid hgs
      clear hR hg hF hG hgs
      obtain ⟨x, hx⟩ : ∃ x, F k = x := ⟨_, rfl⟩
      obtain ⟨y, hy⟩ : ∃ y, G k = y := ⟨_, rfl⟩
      rw [hx] at c0
      rw [hy] at c1
      rw [hx, hy] at HN HS
      clear hx hy
      cases x <;> cases y
      all_goals
        go_wp2_with fail
        go_roundw
        case rel => exact ⟨k + 1, by omega, by go_num, HN.out, HS.out⟩
        case measure => simp [intOf]; omega
    · obtain rfl : k = n := by omega
      clear hR hg
      go_wp2_with fail
      go_end0
      exact ⟨rfl, HR.out.congr (fun j hj => by simp [hj]), HG.out⟩
end Go.Proofs.Ytdnhinkjmjpnnaa

namespace Go.Proofs.Ytdnhinkjmjpnnaa

open Go.RowKit

/-- A table that is only read; what it lies in is new from lo on. -/
def FromT (w : World) (lo m size : Nat) (a : Option Addr) (G : Nat → Nat → Bool) : Prop := ∀ v, v < m → ∃ b off g c, a = some ⟨b, off, none⟩ ∧ lo ≤ b ∧ w.cell? ⟨b, off + v, none⟩ = some (.slice (some ⟨g, 0, none⟩) size c) ∧ lo ≤ g ∧ RowC w g size c (G v)
theorem FromT.gr {w w' : World} {lo m size : Nat} {a : Option Addr} {G : Nat → Nat → Bool} {row : Option Nat} (h : FromT w lo m size a G) (hg : Gr w w' row) (hr : ∀ r, row = some r → r < lo) : FromT w' lo m size a G := by
  intro v hv
  obtain ⟨b, off, g, c, ha, hb, hc, hlo, hR⟩ := h v hv
  exact ⟨b, off, g, c, ha, hb, hg.cell hc (fun e => by have := hr _ e; simp at this; omega), hlo, hR.gr hg (fun e => by have := hr _ e; omega)⟩
theorem FromT.wr {P : Nat → Prop} {w w' : World} {lo m size : Nat} {a : Option Addr} {G : Nat → Nat → Bool} (h : FromT w lo m size a G) (hw : Wr P w w') (hP : ∀ k, P k → k < lo) : FromT w' lo m size a G := by
  intro v hv
  obtain ⟨b, off, g, c, ha, hb, hc, hlo, hR⟩ := h v hv
  exact ⟨b, off, g, c, ha, hb, hw.cell hc (fun e => by have := hP _ e; simp at this; omega), hlo, hR.wr hw (fun e => by have := hP _ e; omega)⟩
theorem RowsF.wr {P : Nat → Prop} {w w' : World} {gs : List Nat} {m : Nat} {F : Nat → Nat → Bool} (h : RowsF w gs m F) (hw : Wr P w w') (hn : ∀ g ∈ gs, ¬ P g) : RowsF w' gs m F :=
  fun v hv => ((h v hv).c.wr hw (hn _ (List.getElem_mem hv))).row
/-- Up to the row v and its place k what G has has been added. -/
def mgF (F G : Nat → Nat → Bool) (v k : Nat) : Nat → Nat → Bool := fun u i => F u i || (decide (u < v ∨ (u = v ∧ i < k)) && G u i)
theorem mgF_new {F G : Nat → Nat → Bool} {v k : Nat} (h : G v k = true) : setT (mgF F G v k) v k = mgF F G v (k + 1) := by
  funext u i
  unfold setT mgF
  by_cases e : u = v ∧ i = k
  · obtain ⟨rfl, rfl⟩ := e; simp [h]
  · rw [if_neg e]
    have : (u < v ∨ (u = v ∧ i < k + 1)) = (u < v ∨ (u = v ∧ i < k)) := by apply propext; omega
    simp [this]
theorem mgF_old {F G : Nat → Nat → Bool} {v k : Nat} (h : G v k = true → mgF F G v k v k = true) : mgF F G v k = mgF F G v (k + 1) := by
  funext u i
  by_cases e : u = v ∧ i = k
  · obtain ⟨rfl, rfl⟩ := e
    unfold mgF at h ⊢
    cases hg : G u i with
    | false => simp
    | true => have := h hg; rw [hg] at this; simp at this ⊢; exact this
  · unfold mgF
    have : (u < v ∨ (u = v ∧ i < k + 1)) = (u < v ∨ (u = v ∧ i < k)) := by apply propext; omega
    simp [this]
def MgC (F G : Nat → Nat → Bool) (m size v k : Nat) (c : Bool) : Prop := (c = false → ∀ u i, u < m → i < size → (u < v ∨ (u = v ∧ i < k)) → G u i = true → F u i = true) ∧ (c = true → ∃ u i, u < m ∧ i < size ∧ G u i = true ∧ F u i = false)
def Merged (gs : List Nat) (m size : Nat) (F G : Nat → Nat → Bool) (w : World) (e : Ending) (w' : World) : Prop :=
  ∃ c : Bool, e = .returned (.bool c) ∧ RowsF w' gs size (fun v k => F v k || G v k) ∧ MgC F G m size m 0 c ∧ Wr (fun k => k ∈ gs) w w'
set_option maxRecDepth 100000 in
set_option maxHeartbeats 4000000 in
theorem l10Merge_any (gs : List Nat) (m size lo : Nat) (a af : Option Addr) (ct cf : Nat) (F G : Nat → Nat → Bool) (w : World) (hT : RowsAt 1 w Any (gs.map (gRow size)) a) (hgm : gs.length = m) (hF : RowsF w gs size F) (hn : gs.Nodup) (hoff : ∀ g ∈ gs, ob a ≠ some g) (hlo : ∀ g ∈ gs, g < lo) (hG : FromT w lo m size af G) (hm : m ≤ 1000) (hs : size ≤ 1000) :
    Calls Try.prog 149 #[.slice a m ct, .slice af m cf] w (Merged gs m size F G w) := by
  have HT := Lib.hid hT.block
  have HF := Lib.hid hF
  have HND := Lib.hid hn
  have HOFF := Lib.hid hoff
  have HLO := Lib.hid hlo
  have HFR := Lib.hid hG
  have HGM := Lib.hid hgm
  clear hT hF hn hoff hlo hG hgm
  go_enter Try.func149, Try.ntmps149
  go_wp2_with fail
  go_loopw [5, 6] (fun s i wr => ∃ (c : Bool) (v : Nat), v ≤ m ∧ s = .bool c ∧ i = .int .i64 v ∧ RowsF wr gs size (mgF F G v 0) ∧ MgC F G m size v 0 c ∧ Wr (fun k => k ∈ gs) w wr) (fun _ i _ => m - (intOf i).toNat)
  case atStart => exact ⟨false, 0, Nat.zero_le _, rfl, rfl, HF.out.congr (fun v j _ _ => by unfold mgF; simp), ⟨(fun _ u i _ _ h => by omega), (fun h => by cases h)⟩, Wr.refl _ _⟩
  case round =>
    obtain ⟨c, v, hv, rfl, rfl, hR, hC, hw⟩ := hrel
    have HR := Lib.hid hR
    have HC := Lib.hid hC
    have HW := Lib.hid hw
    clear hR hC hw
    by_cases hvm : v < m
    · go_wp2_with fail
      go_loopw [5, 7] (fun s i wq => ∃ (c : Bool) (k : Nat), k ≤ size ∧ s = .bool c ∧ i = .int .i64 k ∧ RowsF wq gs size (mgF F G v k) ∧ MgC F G m size v k c ∧ Wr (fun k => k ∈ gs) w wq) (fun _ i _ => size - (intOf i).toNat)
      case atStart => exact ⟨c, 0, Nat.zero_le _, rfl, rfl, HR.out, HC.out, HW.out⟩
      case round =>
        obtain ⟨c, k, hk, rfl, rfl, hR, hC, hw⟩ := hrel
        have HR := Lib.hid hR
        have HC := Lib.hid hC
        have HW := Lib.hid hw
        have hvg : v < gs.length := by rw [HGM.out]; exact hvm
        obtain ⟨bf, of, gf, cf2, rfl, hbf, f0, hgf, hRf⟩ := (HFR.out.wr hw (fun k hk => HLO.out k hk)) v hvm
        clear hR hC hw hbf hgf
        by_cases hks : k < size
        · have f1 := hRf.cell hks
          obtain ⟨bt, ot, rfl, t0⟩ := tab_cell ((HT.out.wr HW.out (fun b _ hb hk => HOFF.out b hk hb)).any) hvg
          have t1 := (HR.out v hvg).cell hks
          have tf := (HR.out v hvg).free k
          obtain ⟨g, hg⟩ : ∃ g, gs[v] = g := ⟨_, rfl⟩
          have HGV := Lib.hid hg
          rw [hg] at t0 t1 tf
          obtain ⟨x, hx⟩ : ∃ x, G v k = x := ⟨_, rfl⟩
          obtain ⟨y, hy⟩ : ∃ y, mgF F G v k v k = y := ⟨_, rfl⟩
          have HX := Lib.hid hx
          have HY := Lib.hid hy
          rw [hx] at f1
          rw [hy] at t1
          clear hg hx hy hRf
          cases x with
          | false =>
            have HN := Lib.hid (mgF_old (F := F) (G := G) (v := v) (k := k) (fun h => by rw [HX.out] at h; cases h))
            have HCN := Lib.hid (show MgC F G m size v (k + 1) c from ⟨fun hc u i hu hi h hg => by
              by_cases e : u = v ∧ i = k
              · obtain ⟨rfl, rfl⟩ := e; rw [HX.out] at hg; cases hg
              · exact HC.out.1 hc u i hu hi (by omega) hg, HC.out.2⟩)
            go_wp2_with fail
            go_roundw
            case rel => exact ⟨c, k + 1, by omega, rfl, by go_num, by rw [← HN.out]; exact HR.out, HCN.out, HW.out⟩
            case measure => simp [intOf]; omega
          | true =>
            have HFV := Lib.hid (show F v k = y by rw [← HY.out]; unfold mgF; simp)
            cases y with
            | true =>
              have HN := Lib.hid (mgF_old (F := F) (G := G) (v := v) (k := k) (fun _ => HY.out))
              have HCN := Lib.hid (show MgC F G m size v (k + 1) c from ⟨fun hc u i hu hi h hg => by
                by_cases e : u = v ∧ i = k
                · obtain ⟨rfl, rfl⟩ := e; exact HFV.out
                · exact HC.out.1 hc u i hu hi (by omega) hg, HC.out.2⟩)
              go_wp2_with fail
              go_roundw
              case rel => exact ⟨c, k + 1, by omega, rfl, by go_num, by rw [← HN.out]; exact HR.out, HCN.out, HW.out⟩
              case measure => simp [intOf]; omega
            | false =>
              have HRN := Lib.hid (show RowsF (wr.setCell ⟨g, k, none⟩ (.bool true)) gs size (mgF F G v (k + 1)) from by
                obtain rfl := HGV.out
                rw [← mgF_new HX.out]
                exact HR.out.upd (G := setT (mgF F G v k) v k) HND.out hvg (own_set _ _ _ _) (((HR.out v hvg).set k true).congr fun j _ => by unfold setT; simp) (fun u hu => funext fun j => by unfold setT; simp [hu]))
              have HWN := Lib.hid (HW.out.trans (Wr.set (P := fun k => k ∈ gs) (p := ⟨g, k, none⟩) (u := .bool true) (by rw [← HGV.out]; exact List.getElem_mem hvg) t1 ⟨true, rfl⟩))
              have HCN := Lib.hid (show MgC F G m size v (k + 1) true from ⟨(fun h => by cases h), fun _ => ⟨v, k, hvm, hks, HX.out, HFV.out⟩⟩)
              go_wp2_with fail
              go_roundw
              case rel => exact ⟨true, k + 1, by omega, rfl, by go_num, HRN.out, HCN.out, HWN.out⟩
              case measure => simp [intOf]; omega
        · obtain rfl : k = size := by omega
          have HCN := Lib.hid (show MgC F G m k (v + 1) 0 c from ⟨fun hc u i hu hi h hg => HC.out.1 hc u i hu hi (by omega) hg, HC.out.2⟩)
          go_wp2_with fail
          go_roundw
          case rel => exact ⟨c, v + 1, by omega, rfl, by go_num, HR.out.congr (fun u j hu hj => by
            unfold mgF
            have : (u < v ∨ (u = v ∧ j < k)) = (u < v + 1 ∨ (u = v + 1 ∧ j < 0)) := by apply propext; omega
            simp only [this]), HCN.out, HW.out⟩
          case measure => simp [intOf]; omega
    · obtain rfl : v = m := by omega
      go_wp2_with fail
      go_ret
      exact ⟨c, rfl, HR.out.congr (fun u j hu _ => by unfold mgF; rw [decide_eq_true (by rw [HGM.out] at hu; exact .inl hu), Bool.true_and]), HC.out, HW.out⟩
end Go.Proofs.Ytdnhinkjmjpnnaa

namespace Go.Proofs.Ytdnhinkjmjpnnaa

open Go.RowKit

/-- append([]bool{}, row...). -/
theorem app_b (w : World) {ops : Array Oper} {rest : List Oper} {o : Oper} {a : Act} {Q : Exit → Act → World → Prop} (hgd : o.guard = none) (s x : Operand)
    (ho : o.op = .call { callee := .builtin .append, args := #[s, x], argTypes := #[75, 75] })
    (g0 gs n c : Nat) (F : Nat → Bool) (hs : a.eval s = .slice (some ⟨g0, 0, none⟩) 0 0) (hg0 : w.heap[g0]? = some (.cells #[] 4 (0, 0)))
    (hx : a.eval x = .slice (some ⟨gs, 0, none⟩) n c) (hF : RowC w gs n c F) (hn : 0 < n) (hn2 : n ≤ 1000)
    (h : ∀ (g cap' : Nat) (w' : World), RowC w' g n cap' F → g0 ≤ g → Gr w w' (some g0) → wpList Try.prog ops Q rest (a.put o.dst (.slice (some ⟨g, 0, none⟩) n cap')) w') : wpList Try.prog ops Q (o :: rest) a w := by
  obtain ⟨i0, hi, hzz⟩ := Option.map_eq_some_iff.1 Binfo
  simp only [Prod.mk.injEq] at hzz
  obtain ⟨hz0, hz1, hz2⟩ := hzz
  have hlt0 : g0 < w.heap.size := lt_of_block hg0
  have hown : w.ownsRow g0 4 1 (.slice (some ⟨g0, 0, none⟩) 0 0) 0 [] := ⟨rfl, .inr ⟨g0, 0, #[], rfl, Nat.le_refl _, hg0, Nat.le_refl _, by unfold maxLen; omega, rfl, by simp⟩⟩
  refine app_own w hgd s x 75 ho g0 4 i0 _ 1 1 Try.underlying75 hi hz0 hz1 hz2 rfl (by decide) (some ⟨g0, 0, none⟩) 0 0 [] hs hown ⟨gs, 0, none⟩ n c ((List.range n).map fun j => .bool (F j)) hx (by simp) (fun j u hu => ?_) (fun u hu => ?_) (by unfold maxLen; omega) (by omega) (by omega) hn ?_
  · obtain ⟨hj, rfl⟩ := List.getElem?_eq_some_iff.1 hu
    have hj' : j < n := by simpa using hj
    have := hF.cell hj'
    simp only [List.getElem_map, List.getElem_range]
    by_cases e : j = 0
    · subst e; simpa [Addr.add] using this
    · simpa [Addr.add, e] using this
  · simp at hu; obtain ⟨k, _, rfl⟩ := hu; rfl
  · intro g cap' w' h1 h2 h3
    rw [Nat.zero_add] at h1 ⊢
    obtain ⟨hR, hb⟩ := RowC.of_own (F := F) h1 (fun j hj => by simp [hj])
    exact h g cap' w' hR hb h2

/-- What the variable that a point sets gets, by the kind. -/
def valB (kind : Int) (op y n : Int) (i : Nat) (F : Nat → Nat → Bool) (k : Nat) : Bool :=
  if kind = 1 then decide (k = i)
  else if kind = 0 then (if op = 2 then decide (k = i) else if op = 3 ∨ op = 4 ∨ op = 5 then F y.toNat k else false)
  else if op = 1 then decide ((k : Int) = n) else if op = 3 then F y.toNat k else decide (op = 6)
def ValRow (size : Nat) (f : Nat → Bool) (w : World) (e : Ending) (w' : World) : Prop := ∃ g : Nat, e = .returned (.slice (some ⟨g, 0, none⟩) size size) ∧ Row w' g size f ∧ w.heap.size ≤ g ∧ Gr w w' none
theorem made_row (w : World) (A B : Obj) (size i : Nat) : Row (((w.alloc A).alloc B).alloc (.cells ((madeCells #[.bool false] size).setIfInBounds i (.bool true)) 4)) (w.heap.size + 1 + 1) size (fun j => decide (j = i)) := by
  refine RowC.row ⟨_, heap3_2 _ _ _ _, by simp [madeCells], Nat.le_refl _, fun j hj => ?_⟩
  have h0 : (madeCells #[.bool false] size)[j]? = some (.bool false) := by
    rw [← Array.getElem?_toList, toList_madeCells_one, List.getElem?_replicate, if_pos hj]
  by_cases e : i = j
  · subst e; rw [Array.getElem?_setIfInBounds_self, if_pos (by simpa [madeCells] using hj)]; simp
  · have : ¬ j = i := fun h => e h.symm
    rw [Array.getElem?_setIfInBounds_ne e, h0]; simp [this]
theorem AddedC.hand {g n c : Nat} {F G : Nat → Bool} {w W w1 : World} {e : Ending} (h : AddedC g n c F G W e w1) (hg : Gr w W none) (hw : w.heap.size ≤ g) : e = .returned (.tuple #[]) ∧ RowC w1 g n c (fun j => F j || G j) ∧ Gr w w1 none :=
  ⟨h.1, h.2.1, hg.trans h.2.2 (fun r e => .inr (by cases e; exact hw))⟩
set_option maxRecDepth 100000 in
set_option maxHeartbeats 4000000 in
theorem l10Value_any (at' ab : Option Addr) (nt ct nb cb : Nat) (op x y n : Int) (nv : Value) (i m cf size : Nat) (kd : Int) (a : Option Addr) (gs : List Nat) (F : Nat → Nat → Bool) (w : World) (hT : RowsAt 1 w Any (gs.map (gRow size)) a) (hgm : gs.length = m) (hF : RowsF w gs size F) (hkd : kd = 0 ∨ kd = 1 ∨ kd = 2)
    (hi : kd ≤ 1 → i < size) (hn : kd = 2 → op = 1 → 0 ≤ n ∧ n < size) (hy : op = 3 ∨ op = 4 ∨ op = 5 → ∃ j : Nat, y = j ∧ j < m) (hs : size ≤ 1000) :
    Calls Try.prog 163 #[.agg #[.slice at' nt ct, .slice ab nb cb], .agg #[.int .i64 op, .int .i64 x, .int .i64 y, .int .i64 n, nv], .int .i64 i, .slice a m cf, .int .i64 kd, .int .i64 size] w (ValRow size (valB kd op y n i F) w) := by
  have hg3 : ∀ o o' o'', Gr w (((w.alloc o).alloc o').alloc o'') none := fun o o' o'' => (((Gr.refl _ _).alloc _).alloc _).alloc _
  have HG3 := Lib.hid hg3
  have hmk := fun w : World => run_make_row' (P := Try.prog) 75 4 (.bool false) 1 Try.underlying75 Binfo rfl .i64 .i64 size (by omega) (by omega) w
  have hrow : ∀ A B, Row (((w.alloc A).alloc B).alloc (.cells (madeCells #[.bool false] size) 4)) (w.heap.size + 1 + 1) size (fun _ => false) := fun A B => by
    have := Row.new ((w.alloc A).alloc B) size
    simpa using this
  have HROW := Lib.hid hrow
  have HT := Lib.hid hT
  have HF := Lib.hid hF
  have HY := Lib.hid hy
  have HGM := Lib.hid hgm
  clear hT hF hy hgm hrow hg3
  rcases hkd with rfl | rfl | rfl
  · have hi' := hi (by omega)
    clear hi hn
    by_cases h2 : op = 2
    · subst h2
      have c0 := fun A B => (HROW.out A B).cell hi'
      have f0 := fun A B => (HROW.out A B).free i
      go_enter Try.func163, Try.ntmps163
      go_wp2_with fail
      go_ret
      exact ⟨_, rfl, (made_row _ _ _ _ _).congr (fun j _ => by unfold valB; simp), by omega, HG3.out _ _ _⟩
    by_cases h345 : op = 3 ∨ op = 4 ∨ op = 5
    · obtain ⟨j, rfl, hj⟩ := HY.out h345
      have hjg : j < gs.length := by rw [HGM.out]; exact hj
      obtain ⟨bt, ot, rfl, t0⟩ := tab_cell HT.out hjg
      have k0 := fun A B C => (HG3.out A B C).cell t0 (by simp)
      obtain ⟨g, hg⟩ : ∃ g, gs[j] = g := ⟨_, rfl⟩
      have HRG := Lib.hid (hg ▸ HF.out j hjg)
      rw [hg] at k0
      have HVAL := Lib.hid (show ∀ k, (false || F j k) = valB 0 op (j : Int) n i F k from fun k => by
        unfold valB
        rw [if_neg (by omega), if_pos rfl, if_neg h2, if_pos h345]; simp)
      clear t0 hg h2
      rcases h345 with rfl | rfl | rfl
      all_goals
        go_enter Try.func163, Try.ntmps163
        go_wp2_with fail
        refine (l4AddC_any (w.heap.size + 1 + 1) g size size size (fun _ => false) (F j) _ (HROW.out _ _).c (HRG.out.c.gr0 (HG3.out _ _ _)) hs).mono ?_
        intro e w1 hA
        obtain ⟨rfl, hR, hg1⟩ := hA.hand (HG3.out _ _ _) (by omega)
        have HR := Lib.hid hR
        have HG1 := Lib.hid hg1
        clear hA hR hg1 k0
        go_wp2_with fail
        go_ret
        exact ⟨_, rfl, HR.out.row.congr (fun k _ => HVAL.out k), by omega, HG1.out⟩
    · have HVAL := Lib.hid (show ∀ k, false = valB 0 op y n i F k from fun k => by
        unfold valB
        rw [if_neg (by omega), if_pos rfl, if_neg h2, if_neg h345])
      have h3 : op ≠ 3 := fun h => h345 (.inl h)
      have h4 : op ≠ 4 := fun h => h345 (.inr (.inl h))
      have h5 : op ≠ 5 := fun h => h345 (.inr (.inr h))
      have e2 : (op == 2) = false := beq_eq_false_iff_ne.2 h2
      have e3 : (op == 3) = false := beq_eq_false_iff_ne.2 h3
      have e4 : (op == 4) = false := beq_eq_false_iff_ne.2 h4
      have e5 : (op == 5) = false := beq_eq_false_iff_ne.2 h5
      clear h345 h2 h3 h4 h5
      go_enter Try.func163, Try.ntmps163
      go_wp2_with fail
      go_ret
      exact ⟨_, rfl, (HROW.out _ _).congr (fun k _ => HVAL.out k), by omega, HG3.out _ _ _⟩
  · have hi' := hi (by omega)
    clear hi hn
    have c0 := fun A B => (HROW.out A B).cell hi'
    have f0 := fun A B => (HROW.out A B).free i
    go_enter Try.func163, Try.ntmps163
    go_wp2_with fail
    go_ret
    exact ⟨_, rfl, (made_row _ _ _ _ _).congr (fun j _ => by unfold valB; simp), by omega, HG3.out _ _ _⟩
  · clear hi
    by_cases h1 : op = 1
    · subst h1
      obtain ⟨hn0, hn1⟩ := hn rfl rfl
      obtain ⟨k, rfl⟩ := Int.eq_ofNat_of_zero_le hn0
      have hk : k < size := by omega
      have c0 := fun A B => (HROW.out A B).cell hk
      have f0 := fun A B => (HROW.out A B).free k
      clear hn hn0 hn1
      go_enter Try.func163, Try.ntmps163
      go_wp2_with fail
      go_ret
      exact ⟨_, rfl, (made_row _ _ _ _ _).congr (fun j _ => by
        unfold valB
        rw [if_neg (by omega), if_neg (by omega), if_pos rfl]
        apply decide_eq_decide.2; omega), by omega, HG3.out _ _ _⟩
    have e1 : (op == 1) = false := beq_eq_false_iff_ne.2 h1
    clear hn
    by_cases h3 : op = 3
    · obtain ⟨j, rfl, hj⟩ := HY.out (.inl h3)
      have hjg : j < gs.length := by rw [HGM.out]; exact hj
      obtain ⟨bt, ot, rfl, t0⟩ := tab_cell HT.out hjg
      have k0 := fun A B C => (HG3.out A B C).cell t0 (by simp)
      obtain ⟨g, hg⟩ : ∃ g, gs[j] = g := ⟨_, rfl⟩
      have HRG := Lib.hid (hg ▸ HF.out j hjg)
      rw [hg] at k0
      have HVAL := Lib.hid (show ∀ k, (false || F j k) = valB 2 op (j : Int) n i F k from fun k => by
        unfold valB
        rw [if_neg (by omega), if_neg (by omega), if_neg h1, if_pos h3]; simp)
      clear t0 hg h1 e1
      subst h3
      go_enter Try.func163, Try.ntmps163
      go_wp2_with fail
      refine (l4AddC_any (w.heap.size + 1 + 1) g size size size (fun _ => false) (F j) _ (HROW.out _ _).c (HRG.out.c.gr0 (HG3.out _ _ _)) hs).mono ?_
      intro e w1 hA
      obtain ⟨rfl, hR, hg1⟩ := hA.hand (HG3.out _ _ _) (by omega)
      have HR := Lib.hid hR
      have HG1 := Lib.hid hg1
      clear hA hR hg1 k0
      go_wp2_with fail
      go_ret
      exact ⟨_, rfl, HR.out.row.congr (fun k _ => HVAL.out k), by omega, HG1.out⟩
    have e3 : (op == 3) = false := beq_eq_false_iff_ne.2 h3
    have HVAL := Lib.hid (show ∀ k, decide (op = 6) = valB 2 op y n i F k from fun k => by
      unfold valB
      rw [if_neg (by omega), if_neg (by omega), if_neg h1, if_neg h3])
    by_cases h6 : op = 6
    · have HV6 := Lib.hid (show ∀ k, true = valB 2 op y n i F k from fun k => by rw [← HVAL.out k, h6]; rfl)
      clear h1 h3 e1 e3
      subst h6
      go_enter Try.func163, Try.ntmps163
      go_wp2_with fail
      have hR0 := HROW.out (.cells #[.slice at' nt ct, .slice ab nb cb] 30) (.cells #[.int .i64 6, .int .i64 x, .int .i64 y, .int .i64 n, nv] 88)
      have hg0 := HG3.out (.cells #[.slice at' nt ct, .slice ab nb cb] 30) (.cells #[.int .i64 6, .int .i64 x, .int .i64 y, .int .i64 n, nv] 88) (.cells (madeCells #[.bool false] size) 4)
      go_loopw [14] (fun s wr => ∃ k : Nat, k ≤ size ∧ s = .int .i64 k ∧ Row wr (w.heap.size + 1 + 1) size (fun j => decide (j < k)) ∧ Gr w wr none) (fun s _ => size - (intOf s).toNat)
      case atStart => exact ⟨0, Nat.zero_le _, rfl, hR0.congr (fun j _ => by simp), hg0⟩
      case round =>
        obtain ⟨k, hk, rfl, hR, hg⟩ := hrel
        have HR := Lib.hid hR
        have HG := Lib.hid hg
        clear hmk hR0 hg0 hg
        by_cases hlt : k < size
        · have c0 := hR.cell hlt
          have f0 := hR.free k
          obtain ⟨z, hz⟩ : ∃ z, decide (k < k) = z := ⟨_, rfl⟩
          rw [hz] at c0
          have HN := Lib.hid (show Row (wr.setCell ⟨w.heap.size + 1 + 1, k, none⟩ (.bool true)) (w.heap.size + 1 + 1) size (fun j => decide (j < k + 1)) from (HR.out.set k true).congr fun j _ => by
            by_cases e : j = k
            · subst e; simp
            · have : (j < k + 1) = (j < k) := by apply propext; omega
              simp [e, this])
          clear hR hz
          go_wp2_with fail
          go_roundw
          case rel => exact ⟨k + 1, by omega, by go_num, HN.out, HG.out.setNew (by simp; omega) _⟩
          case measure => simp [intOf]; omega
        · obtain rfl : k = size := by omega
          clear hR
          go_wp2_with fail
          go_ret
          exact ⟨_, rfl, HR.out.congr (fun j hj => by rw [← HV6.out j]; simp [hj]), by omega, HG.out⟩
    · have e6 : (op == 6) = false := beq_eq_false_iff_ne.2 h6
      have HV6 := Lib.hid (show ∀ k, false = valB 2 op y n i F k from fun k => by rw [← HVAL.out k, decide_eq_false h6])
      clear h1 h3 h6
      go_enter Try.func163, Try.ntmps163
      go_wp2_with fail
      go_ret
      exact ⟨_, rfl, (HROW.out _ _).congr (fun k _ => HV6.out k), by omega, HG3.out _ _ _⟩
end Go.Proofs.Ytdnhinkjmjpnnaa

namespace Go.Proofs.Ytdnhinkjmjpnnaa

open Go.RowKit

def gRowC (m : Nat) (g : Nat × Nat) : List Value := [.slice (some ⟨g.1, 0, none⟩) m g.2]
theorem app_rowC (w0 w : World) {ops : Array Oper} {rest : List Oper} {o : Oper} {a : Act} {Q : Exit → Act → World → Prop} (hgd : o.guard = none) (x y : Operand)
    (ho : o.op = .call { callee := .builtin .append, args := #[x, y], argTypes := #[73, 73] })
    (b0 base : Nat) (ao : Option Addr) (cap n m gr c : Nat) (hs : List (Nat × Nat)) (hx0 : a.eval x = .slice ao n cap) (hown : LstR 75 1 w0 b0 base (hs.map (gRowC m)) ao n cap) (h0 : Gr w0 w none)
    (bx cx : Nat) (hx : a.eval y = .slice (some ⟨bx, 0, none⟩) 1 cx) (hc : w.heap[bx]? = some (.cells #[.slice (some ⟨gr, 0, none⟩) m c] 75 (0, 0))) (hlen : n ≤ 1000000) (hbase : base ≤ w0.heap.size)
    (h : ∀ (g cap' : Nat) (w' : World), LstR 75 1 w' b0 base ((hs ++ [(gr, c)]).map (gRowC m)) (some ⟨g, 0, none⟩) (n + 1) cap' → (∀ a : World, Gr a w none → a.heap.size ≤ base → Gr a w' none) → Gr w w' (ob ao) →
      wpList Try.prog ops Q rest (a.put o.dst (.slice (some ⟨g, 0, none⟩) (n + 1) cap')) w') : wpList Try.prog ops Q (o :: rest) a w := by
  refine app_r w0 w hgd x y 73 ho 75 1 24 (.slice none 0 0) Try.underlying73 SBinfo rfl (by decide) (by decide) b0 base ao cap n _ (gRowC m (gr, c)) hx0 hown h0 bx cx hx _ hc rfl rfl (by intro u hu; simp [gRowC] at hu; subst hu; rfl) (by omega) hbase ?_
  intro g cap' w' h1 h2 h3
  refine h g cap' w' ?_ h2 h3
  rw [List.map_append]
  exact h1
/-- Rows that are new from lo on. -/
def RowsC (w : World) (lo m : Nat) (hs : List (Nat × Nat)) (F : Nat → Nat → Bool) : Prop := ∀ j (h : j < hs.length), lo ≤ hs[j].1 ∧ RowC w hs[j].1 m hs[j].2 (F j)
theorem RowsC.gr {w w' : World} {lo m : Nat} {hs : List (Nat × Nat)} {F : Nat → Nat → Bool} {row : Option Nat} (h : RowsC w lo m hs F) (hg : Gr w w' row) (hr : ∀ g ∈ hs, row ≠ some g.1) : RowsC w' lo m hs F :=
  fun j hj => ⟨(h j hj).1, (h j hj).2.gr hg (hr _ (List.getElem_mem hj))⟩
theorem RowC.off {w : World} {g n c : Nat} {F : Nat → Bool} (h : RowC w g n c F) {b : Nat} {cs : Array Value} {t : TypeId} {x : Nat × Nat} (hb : w.heap[b]? = some (.cells cs t x)) (ht : t ≠ 4) : b ≠ g := by
  rintro rfl
  obtain ⟨arr, h1, _⟩ := h
  rw [hb] at h1
  simp at h1
  exact ht h1.2.1
theorem RowsC.grow {w w1 w4 : World} {b0 base cap n m lo gr c : Nat} {ao : Option Addr} {hs : List (Nat × Nat)} {F : Nat → Nat → Bool} (h : RowsC w lo m hs F) (hL : LstR 75 1 w b0 base (hs.map (gRowC m)) ao n cap) (hw : Gr w w1 none) (hr : RowC w1 gr m c (F hs.length)) (hlo : lo ≤ gr) (hgr : w.heap.size ≤ gr) (hg : Gr w1 w4 (ob ao)) : RowsC w4 lo m (hs ++ [(gr, c)]) F := by
  intro j hj
  by_cases e : j < hs.length
  · rw [List.getElem_append_left e]
    refine ⟨(h j e).1, ((h j e).2.gr0 hw).gr hg fun hb => ?_⟩
    have hne : hs.map (gRowC m) ≠ [] := by
      intro h0
      have := List.map_eq_nil_iff.1 h0
      subst this
      simp at e
    obtain ⟨cs, hc⟩ := hL.typ hne hb
    exact (h j e).2.off hc (by decide) rfl
  · obtain rfl : j = hs.length := by simp at hj; omega
    rw [List.getElem_append_right (Nat.le_refl _)]
    simp only [Nat.sub_self, List.getElem_cons_zero]
    refine ⟨hlo, hr.gr hg fun hb => ?_⟩
    have := hL.lt _ hb
    omega
theorem RowsC.off {w : World} {b0 base cap n m lo : Nat} {ao : Option Addr} {hs : List (Nat × Nat)} {F : Nat → Nat → Bool} (h : RowsC w lo m hs F) (hL : LstR 75 1 w b0 base (hs.map (gRowC m)) ao n cap) : ∀ g ∈ hs, ob ao ≠ some g.1 := by
  intro g hg hb
  obtain ⟨j, hj, rfl⟩ := List.getElem_of_mem hg
  have hne : hs.map (gRowC m) ≠ [] := by
    intro h0
    have := List.map_eq_nil_iff.1 h0
    subst this
    simp at hj
  obtain ⟨cs, hc⟩ := hL.typ hne hb
  exact (h j hj).2.off hc (by decide) rfl
theorem hs_cell {w : World} {hs : List (Nat × Nat)} {m : Nat} {a : Option Addr} (h : RowsAt 1 w Any (hs.map (gRowC m)) a) {v : Nat} (hv : v < hs.length) : ∃ b off, a = some ⟨b, off, none⟩ ∧ w.cell? ⟨b, off + v, none⟩ = some (.slice (some ⟨hs[v].1, 0, none⟩) m hs[v].2) := by
  obtain ⟨b, off, e, -, hc⟩ := h v (by simpa using hv)
  refine ⟨b, off, e, ?_⟩
  have := hc 0 (.slice (some ⟨hs[v].1, 0, none⟩) m hs[v].2) (by simp [gRowC])
  simpa using this
theorem LstR.low {e : TypeId} {s : Nat} {w : World} {b0 base : Nat} {l : List (List Value)} {ao : Option Addr} {n cap : Nat} (h : LstR e s w b0 base l ao n cap) : ∀ g, ob ao = some g → b0 ≤ g := by
  intro g hg
  rcases h.2.2.2 with ⟨_, _, h3⟩ | h4
  · exact (h3 g hg).1
  · rcases h4.2 with ⟨hv, _⟩ | ⟨g', cap', cur, hv, hb, _⟩
    · simp only [Value.slice.injEq] at hv
      rw [hv.1] at hg; simp [ob] at hg
    · simp only [Value.slice.injEq] at hv
      rw [hv.1] at hg
      simp [ob] at hg
      have := h.2.1
      omega
theorem LstR.frz {e : TypeId} {s : Nat} {w : World} {b0 base : Nat} {l : List (List Value)} {ao : Option Addr} {n cap : Nat} (h : LstR e s w b0 base l ao n cap) (hl : l ≠ []) : ∀ x : Addr, ob ao = some x.block → w.frozen? x = false := by
  intro x hx
  obtain ⟨cs, hc⟩ := h.typ hl hx
  simp [World.frozen?, hc]
/-- A table that is only read is handed back. -/
def AfterT (m size : Nat) (G : Nat → Nat → Bool) (w : World) (e : Ending) (w' : World) : Prop := ∃ (a : Option Addr) (c : Nat), e = .returned (.slice a m c) ∧ FromT w' w.heap.size m size a G ∧ Gr w w' none
/-- What is known behind a point. -/
def aftB (T : List Int) (kd op x y n : Int) (i : Nat) (F : Nat → Nat → Bool) (v k : Nat) : Bool := if setOf op x = (v : Int) then valB kd op y n i F k else if takesB T op x y v = true then false else F v k
set_option maxRecDepth 100000 in
set_option maxHeartbeats 8000000 in
theorem l10After_any (T : List Int) (at' ab : Option Addr) (ct nb cb : Nat) (op x y n : Int) (an : Option Addr) (nn cn : Nat) (i cf size : Nat) (kd : Int) (a : Option Addr) (gs : List Nat) (F : Nat → Nat → Bool) (w : World) (hTy : InAt w Any T at') (hT : RowsAt 1 w Any (gs.map (gRow size)) a) (hgm : gs.length = T.length) (hF : RowsF w gs size F) (hkd : kd = 0 ∨ kd = 1 ∨ kd = 2)
    (hi : kd ≤ 1 → i < size) (hn : kd = 2 → op = 1 → 0 ≤ n ∧ n < size) (hy : op = 3 ∨ op = 4 ∨ op = 5 → ∃ j : Nat, y = j ∧ j < T.length) (hx : -1 ≤ setOf op x ∧ setOf op x < T.length) (hs : size ≤ 1000) (hs0 : 0 < size) (hT6 : T.length ≤ 6) :
    Calls Try.prog 148 #[.agg #[.slice at' T.length ct, .slice ab nb cb], .agg #[.int .i64 op, .int .i64 x, .int .i64 y, .int .i64 n, .slice an nn cn], .int .i64 i, .slice a T.length cf, .int .i64 kd, .int .i64 size] w (AfterT T.length size (aftB T kd op x y n i F) w) := by
  have hmk := fun w : World => run_make_row' (P := Try.prog) 75 4 (.bool false) 1 Try.underlying75 Binfo rfl .i64 .i64 size (by omega) (by omega) w
  have HTY := Lib.hid hTy
  have HT := Lib.hid hT
  have HF := Lib.hid hF
  have HGM := Lib.hid hgm
  have HHI := Lib.hid hi
  have HHN := Lib.hid hn
  have HHY := Lib.hid hy
  have HKD := Lib.hid hkd
  obtain ⟨sx, hsx⟩ : ∃ sx, setOf op x = sx := ⟨_, rfl⟩
  rw [hsx] at hx
  have HSX := Lib.hid hsx
  clear hTy hT hF hgm hi hn hy hkd hsx
  have hE1 : ((w.alloc (.cells #[.slice at' T.length ct, .slice ab nb cb] 30)).alloc (.cells #[.int .i64 op, .int .i64 x, .int .i64 y, .int .i64 n, .slice an nn cn] 88)).heap[w.heap.size]? = some (.cells #[.slice at' T.length ct, .slice ab nb cb] 30 (0, 0)) := heap2_0 _ _ _
  have hE2 : ((w.alloc (.cells #[.slice at' T.length ct, .slice ab nb cb] 30)).alloc (.cells #[.int .i64 op, .int .i64 x, .int .i64 y, .int .i64 n, .slice an nn cn] 88)).heap[w.heap.size + 1]? = some (.cells #[.int .i64 op, .int .i64 x, .int .i64 y, .int .i64 n, .slice an nn cn] 88 (0, 0)) := heap2_1 _ _ _
  go_enter Try.func148, Try.ntmps148
  go_wp2_with fail
  obtain ⟨wA, hwA⟩ : ∃ wA, wA = (w.alloc (.cells #[.slice at' T.length ct, .slice ab nb cb] 30)).alloc (.cells #[.int .i64 op, .int .i64 x, .int .i64 y, .int .i64 n, .slice an nn cn] 88) := ⟨_, rfl⟩
  have hszA : wA.heap.size = w.heap.size + 1 + 1 := by rw [hwA]; simp
  have hgA : Gr w wA none := by rw [hwA]; exact ((Gr.refl _ _).alloc _).alloc _
  obtain ⟨wB, hwB⟩ : ∃ wB, wB = wA.alloc (.cells #[] 75) := ⟨_, rfl⟩
  have hgAB : Gr wA wB none := by rw [hwB]; exact (Gr.refl _ _).alloc _
  have hszB : wB.heap.size = wA.heap.size + 1 := by rw [hwB]; simp
  have hE3 : wB.heap[w.heap.size + 1 + 1]? = some (.cells #[] 75 (0, 0)) := by rw [hwB, ← hszA]; exact heap1_0 _ _
  rw [← hwA] at hE1 hE2 ⊢
  rw [← hwB]
  have hgB : Gr w wB none := hgA.trans0 hgAB
  have p0 : wB.cell? ⟨w.heap.size, 0, none⟩ = some (.slice at' T.length ct) := hgAB.cell (cell_of_row _ _ _ _ _ _ hE1) (by simp)
  have p1 : wB.cell? ⟨w.heap.size, 1, none⟩ = some (.slice ab nb cb) := hgAB.cell (cell_of_row _ _ _ _ _ _ hE1) (by simp)
  have x0 : wB.cell? ⟨w.heap.size + 1, 0, none⟩ = some (.int .i64 op) := hgAB.cell (cell_of_row _ _ _ _ _ _ hE2) (by simp)
  have x1 : wB.cell? ⟨w.heap.size + 1, 1, none⟩ = some (.int .i64 x) := hgAB.cell (cell_of_row _ _ _ _ _ _ hE2) (by simp)
  have x2 : wB.cell? ⟨w.heap.size + 1, 2, none⟩ = some (.int .i64 y) := hgAB.cell (cell_of_row _ _ _ _ _ _ hE2) (by simp)
  have x3 : wB.cell? ⟨w.heap.size + 1, 3, none⟩ = some (.int .i64 n) := hgAB.cell (cell_of_row _ _ _ _ _ _ hE2) (by simp)
  have x4 : wB.cell? ⟨w.heap.size + 1, 4, none⟩ = some (.slice an nn cn) := hgAB.cell (cell_of_row _ _ _ _ _ _ hE2) (by simp)
  have P0 := Lib.hid p0
  have P1 := Lib.hid p1
  have X0 := Lib.hid x0
  have X1 := Lib.hid x1
  have X2 := Lib.hid x2
  have X3 := Lib.hid x3
  have X4 := Lib.hid x4
  have HGB := Lib.hid hgB
  have hL0 : LstR 75 1 wB w.heap.size wB.heap.size (([] : List (Nat × Nat)).map (gRowC size)) (some ⟨w.heap.size + 1 + 1, 0, none⟩) 0 0 := LstR.empty (by omega) (by omega) hE3
  have HSZ := Lib.hid (show wB.heap.size = w.heap.size + 1 + 1 + 1 by omega)
  clear hwA hwB hszA hgA hgAB hszB hE1 hE2 hE3 hgB p0 p1 x0 x1 x2 x3 x4
  go_loopw [13, 14] (fun v s wr => ∃ (k cap : Nat) (ao : Option Addr) (hl : List (Nat × Nat)), k ≤ T.length ∧ s = .int .i64 k ∧ v = .slice ao k cap ∧ hl.length = k ∧ LstR 75 1 wr w.heap.size wB.heap.size (hl.map (gRowC size)) ao k cap ∧ RowsC wr w.heap.size size hl (fun u k => if takesB T op x y u = true then false else F u k) ∧ Gr wB wr none) (fun _ s _ => T.length - (intOf s).toNat)
  case atStart => exact ⟨0, 0, _, [], Nat.zero_le _, rfl, rfl, rfl, hL0, fun j hj => absurd hj (by simp), Gr.refl _ _⟩
  case round =>
    obtain ⟨k, cap, ao, hl, hk, rfl, rfl, hhl, hLs, hRC, hg⟩ := hrel
    have HLS := Lib.hid hLs
    have HRC := Lib.hid hRC
    have HHL := Lib.hid hhl
    have HG := Lib.hid (HGB.out.trans0 hg)
    have HGW := Lib.hid hg
    have x0 := hg.cell X0.out (by simp)
    have x1 := hg.cell X1.out (by simp)
    have x2 := hg.cell X2.out (by simp)
    have x3 := hg.cell X3.out (by simp)
    have x4 := hg.cell X4.out (by simp)
    have p0 := hg.cell P0.out (by simp)
    have p1 := hg.cell P1.out (by simp)
    clear hLs hRC hhl hg hL0
    by_cases hlt : k < T.length
    · obtain ⟨tb, htb⟩ : ∃ tb, takesB T op x y k = tb := ⟨_, rfl⟩
      have hte := take_eq (op := op) (x := x) (y := y) hlt
      rw [htb] at hte
      obtain ⟨UU, hUU⟩ : ∃ UU, useK T[k] op x y k = UU := ⟨_, rfl⟩
      rw [hUU] at hte
      have HUU := Lib.hid hUU
      have HTB := Lib.hid htb
      clear hUU htb
      cases tb with
      | true =>
        go_wp2_with fail
        refine (l3Use_any T at' ct op x y n (.slice an nn cn) k hlt _ (HTY.out.gr0 HG.out) (by omega)).mono ?_
        rw [HUU.out]
        rintro e w2 ⟨rfl, hg2⟩
        have HL2 := Lib.hid (HLS.out.gr hg2)
        have HR2 := Lib.hid (HRC.out.gr hg2 (by simp))
        have HW2 := Lib.hid (HGW.out.trans0 hg2)
        have hR0 : Row (w2.alloc (.cells (madeCells #[.bool false] size) 4)) w2.heap.size size (fun _ => false) := Row.new w2 size
        have HR0 := Lib.hid hR0
        clear hR0 hg2 x0 x1 x2 x3 x4 p0 p1
        go_wp2_with (at_builtin; refine app_rowC w2 _ rfl (.tmp 29) (.tmp 32) rfl w.heap.size wB.heap.size ao cap k size w2.heap.size size hl rfl HL2.out (((Gr.refl _ _).alloc _).alloc _) (w2.heap.size + 1) 1 rfl (heap2_1 _ _ _) (by omega) HW2.out.size ?_; rintro g cap' w4 hL4 hg4 hgo)
        go_roundw
        case rel => exact ⟨k + 1, cap', some ⟨g, 0, none⟩, hl ++ [(w2.heap.size, size)], by omega, by go_num, rfl, by simp [HHL.out], hL4, HR2.out.grow HL2.out (((Gr.refl _ _).alloc _).alloc _) ((HR0.out.gr0 ((Gr.refl _ _).alloc _)).c.congr (fun j _ => by rw [HHL.out, HTB.out]; rfl)) (by have := HW2.out.size; have := HSZ.out; omega) (Nat.le_refl _) hgo, hg4 _ ((HW2.out.alloc _).alloc _) (Nat.le_refl _)⟩
        case measure => simp [intOf]; omega
      | false =>
        have hkg : k < gs.length := by rw [HGM.out]; exact hlt
        obtain ⟨bt, ot, rfl, t0⟩ := tab_cell HT.out hkg
        go_wp2_with fail
        refine (l3Use_any T at' ct op x y n (.slice an nn cn) k hlt _ (HTY.out.gr0 HG.out) (by omega)).mono ?_
        rw [HUU.out]
        rintro e w2 ⟨rfl, hg2⟩
        have HL2 := Lib.hid (HLS.out.gr hg2)
        have HR2 := Lib.hid (HRC.out.gr hg2 (by simp))
        have HW2 := Lib.hid (HGW.out.trans0 hg2)
        have hG2 : Gr w w2 none := HG.out.trans0 hg2
        have k0 := fun A => ((hG2.alloc A).cell t0 (by simp))
        obtain ⟨g5, hg5⟩ : ∃ g5, gs[k] = g5 := ⟨_, rfl⟩
        have HRG := Lib.hid (hg5 ▸ (HF.out k hkg).gr0 hG2)
        rw [hg5] at k0
        clear hg2 x0 x1 x2 x3 x4 p0 p1 hg5 hG2 t0
        go_wp2_with (first | (at_builtin; refine app_b (w2.alloc (.cells #[] 4)) rfl (.tmp 35) (.tmp 39) rfl w2.heap.size g5 size size (F k) rfl (heap1_0 _ _) rfl (HRG.out.c.gr0 ((Gr.refl _ _).alloc _)) hs0 hs ?_; rintro g3 cap3 w3 hR3 hb3 hg3; have HR3 := Lib.hid hR3; have HG23 := Lib.hid (show Gr w2 w3 none from ((Gr.refl w2 none).alloc (.cells #[] 4)).trans hg3 (fun r e => .inr (by cases e; exact Nat.le_refl _))); clear hR3 hg3) | (at_builtin; refine app_rowC w3 _ rfl (.tmp 34) (.tmp 41) rfl w.heap.size wB.heap.size ao cap k size g3 cap3 hl rfl (HL2.out.gr HG23.out) ((Gr.refl _ _).alloc _) w3.heap.size 1 rfl (heap1_0 _ _) (by omega) (HW2.out.trans0 HG23.out).size ?_; rintro g cap' w4 hL4 hg4 hgo))
        go_roundw
        case rel => exact ⟨k + 1, cap', some ⟨g, 0, none⟩, hl ++ [(g3, cap3)], by omega, by go_num, rfl, by simp [HHL.out], hL4, HR2.out.grow HL2.out (HG23.out.alloc _) ((HR3.out.gr0 ((Gr.refl _ _).alloc _)).congr (fun j _ => by rw [HHL.out, HTB.out]; simp)) (by have := HW2.out.size; have := HSZ.out; omega) hb3 hgo, hg4 _ ((HW2.out.trans0 HG23.out).alloc _) (Nat.le_refl _)⟩
        case measure => simp [intOf]; omega
    · obtain rfl : k = T.length := by omega
      go_wp2_with fail
      refine (l3Set_any op x y n _ _).mono ?_
      rw [HSX.out]
      rintro e w2 ⟨rfl, hg2⟩
      have hL2 := HLS.out.gr hg2
      have hR2 := HRC.out.gr hg2 (by simp)
      have hG2 := HG.out.trans0 hg2
      have HL2 := Lib.hid hL2
      have HR2 := Lib.hid hR2
      have HG2 := Lib.hid hG2
      have y0 := hg2.cell x0 (by simp)
      have y1 := hg2.cell x1 (by simp)
      have y2 := hg2.cell x2 (by simp)
      have y3 := hg2.cell x3 (by simp)
      have y4 := hg2.cell x4 (by simp)
      have z0 := hg2.cell p0 (by simp)
      have z1 := hg2.cell p1 (by simp)
      clear hL2 hR2 hG2 hg2 x0 x1 x2 x3 x4 p0 p1 hmk
      by_cases h0 : 0 ≤ sx
      · obtain ⟨sj, rfl⟩ := Int.eq_ofNat_of_zero_le h0
        have hsj : sj < T.length := by omega
        have hsl : sj < hl.length := by rw [HHL.out]; exact hsj
        obtain ⟨b, off, rfl, c0⟩ := hs_cell HL2.out.rows hsl
        have hne : hl.map (gRowC size) ≠ [] := fun h => by
          have := List.map_eq_nil_iff.1 h
          rw [this] at hsl; simp at hsl
        have fz : ∀ j, w2.frozen? ⟨b, j, none⟩ = false := fun j => HL2.out.frz hne ⟨b, j, none⟩ rfl
        have hbl : b < w2.heap.size := HL2.out.lt b rfl
        have HLOW := Lib.hid (HL2.out.low b rfl)
        obtain ⟨gh, hgh⟩ : ∃ gh, hl[sj] = gh := ⟨_, rfl⟩
        rw [hgh] at c0
        have FZ := Lib.hid fz
        clear hgh hne fz
        go_wp2_with fail
        refine (l10Value_any at' ab T.length ct nb cb op x y n (.slice an nn cn) i T.length cf size kd a gs F _ (HT.out.gr0 HG2.out) HGM.out (HF.out.gr0 HG2.out) HKD.out HHI.out HHN.out HHY.out hs).mono ?_
        rintro e w3 ⟨gv, rfl, hRv, hbv, hg3⟩
        have c1 := hg3.cell c0 (by simp)
        have f1 := (hg3.frozen (p := ⟨b, off + sj, none⟩) hbl (by simp)).trans (FZ.out _)
        have HRV := Lib.hid hRv
        have HG3 := Lib.hid hg3
        clear c0 hRv hg3
        go_wp2_with fail
        go_ret
        refine ⟨_, _, rfl, fun v hv => ?_, ((HG2.out.trans0 HG3.out).setNew HLOW.out _)⟩
        have hvl : v < hl.length := by rw [HHL.out]; exact hv
        by_cases e : v = sj
        · subst e
          refine ⟨b, off, gv, size, rfl, HLOW.out, World.cell?_setCell_same _ _ _ c1, by have := HG2.out.size; omega, ?_⟩
          refine (HRV.out.c.gr (own_set _ _ _ _) (by simp; omega)).congr fun j _ => ?_
          unfold aftB; rw [HSX.out, if_pos rfl]
        · obtain ⟨b', off', e1, cv⟩ := hs_cell (HL2.out.gr HG3.out).rows hvl
          cases e1
          have hoff := HR2.out.off HL2.out _ (List.getElem_mem hvl)
          refine ⟨b, off, hl[v].1, hl[v].2, rfl, HLOW.out, ?_, (HR2.out v hvl).1, ?_⟩
          · rw [World.cell?_setCell_other _ _ _ _ (by intro h; simp at h <;> omega)]; exact cv
          · refine (((HR2.out v hvl).2.gr0 HG3.out).gr (own_set _ _ _ _) hoff).congr fun j _ => ?_
            unfold aftB; rw [HSX.out, if_neg (by omega)]
      · go_wp2_with fail
        go_ret
        refine ⟨_, _, rfl, fun v hv => ?_, HG2.out⟩
        have hvl : v < hl.length := by rw [HHL.out]; exact hv
        obtain ⟨b', off', rfl, cv⟩ := hs_cell HL2.out.rows hvl
        refine ⟨b', off', hl[v].1, hl[v].2, rfl, HL2.out.low b' rfl, cv, (HR2.out v hvl).1, (HR2.out v hvl).2.congr fun j _ => ?_⟩
        unfold aftB; rw [HSX.out, if_neg (by omega)]
end Go.Proofs.Ytdnhinkjmjpnnaa
