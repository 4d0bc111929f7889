/- What is known of loans, as the reference keeps it: walks of l4Add on rows, of l4Start. -/
import Derived.Test.YtadlnjglpigjmaaEG

import Derived.Test.YtadlnjglpigjmaaMB

import Derived.Deep.WholeRow

import Derived.Deep.RegionLaw

import Derived.BigRegion

namespace Go.Proofs.Ytadlnjglpigjmaa

open Go.RowKit

def AddedE (gt n ct : Nat) (F G : Nat → Bool) (w : World) (e : Ending) (w' : World) : Prop := e = .returned (.tuple #[]) ∧ RowE w' gt n ct (fun j => F j || G j) ∧ Gr w w' (some gt)
theorem RowE.unique {w : World} {g n c c' : Nat} {F G : Nat → Bool} (h : RowE w g n c F) (h' : RowE w g n c' G) {j : Nat} (hj : j < n) : F j = G j := by
  have h1 := h.cell hj
  rw [h'.cell hj] at h1
  simpa using h1.symm
set_option maxRecDepth 100000 in
set_option maxHeartbeats 1000000 in
theorem l4AddE_any (gt gs n ct cs : Nat) (F G : Nat → Bool) (w : World) (hF : RowE w gt n ct F) (hG : RowE w gs n cs G) (hn : n ≤ 1000) :
    Calls Try.prog 114 #[.slice (some ⟨gt, 0, none⟩) n ct, .slice (some ⟨gs, 0, none⟩) n cs] w (AddedE gt n ct F G w) := by
  go_enter Try.func114, Try.ntmps114
  go_wp2_with fail
  go_loopw [4] (fun i wr => ∃ k : Nat, k ≤ n ∧ i = .int .i64 k ∧ RowE wr gt n ct (fun j => F j || (decide (j < k) && G j)) ∧ Gr w wr (some gt)) (fun i _ => n - (intOf i).toNat)
  case atStart => exact ⟨0, Nat.zero_le _, rfl, hF.congr (fun j _ => by simp), Gr.refl _ _⟩
  case round =>
    obtain ⟨k, hkl, rfl, hR, hg⟩ := hrel
    have HR := Lib.hid hR
    have HG := Lib.hid hg
    by_cases hlt : k < n
    · have c0 : wr.cell? ⟨gt, k, none⟩ = some (.bool (F k)) := by have := hR.cell hlt; simpa using this
      have c1 : wr.cell? ⟨gs, k, none⟩ = some (.bool (G k)) := by
        by_cases e : gt = gs
        · subst e
          rw [c0]; exact congrArg (fun z => some (Value.bool z)) (hF.unique hG hlt)
        · exact hg.cell (hG.cell hlt) (by simpa using e)
      have hfz := hR.free k
      have HN := Lib.hid (show RowE (wr.setCell ⟨gt, k, none⟩ (.bool (F k || G k))) gt n ct (fun j => F j || (decide (j < k + 1) && G j)) from (hR.set k (F k || G k)).congr (fun j _ => by
        by_cases e : j = k
        · subst e; simp
        · have : (j < k + 1) = (j < k) := by apply propext; omega
          simp [e, this]))
      have hgs : Gr w (wr.setCell ⟨gt, k, none⟩ (.bool (F k || G k))) (some gt) := hg.setOwn rfl _
      have HS := Lib.hid hgs
      clear hR hg hF hG hgs
      obtain ⟨x, hx⟩ : ∃ x, F k = x := ⟨_, rfl⟩
      obtain ⟨y, hy⟩ : ∃ y, G k = y := ⟨_, rfl⟩
      rw [hx] at c0
      rw [hy] at c1
      rw [hx, hy] at HN HS
      clear hx hy
      cases x <;> cases y
      all_goals
        go_wp2_with fail
        go_roundw
        case rel => exact ⟨k + 1, by omega, by go_num, HN.out, HS.out⟩
        case measure => simp [intOf]; omega
    · obtain rfl : k = n := by omega
      clear hR hg
      go_wp2_with fail
      go_end0
      exact ⟨rfl, HR.out.congr (fun j hj => by simp [hj]), HG.out⟩
def gRowE (m : Nat) (g : Nat × Nat) : List Value := [.slice (some ⟨g.1, 0, none⟩) m g.2]
/-- Rows, new from lo on. -/
def RowsE (w : World) (lo m : Nat) (hs : List (Nat × Nat)) (F : Nat → Nat → Bool) : Prop := ∀ j (h : j < hs.length), lo ≤ hs[j].1 ∧ RowE w hs[j].1 m hs[j].2 (F j)
theorem RowsE.gr {w w' : World} {lo m : Nat} {hs : List (Nat × Nat)} {F : Nat → Nat → Bool} {row : Option Nat} (h : RowsE w lo m hs F) (hg : Gr w w' row) (hr : ∀ g ∈ hs, row ≠ some g.1) : RowsE w' lo m hs F :=
  fun j hj => ⟨(h j hj).1, (h j hj).2.gr hg (hr _ (List.getElem_mem hj))⟩
theorem RowsE.gr0 {w w' : World} {lo m : Nat} {hs : List (Nat × Nat)} {F : Nat → Nat → Bool} (h : RowsE w lo m hs F) (hg : Gr w w' none) : RowsE w' lo m hs F := h.gr hg (by simp)
theorem RowsE.lt {w : World} {lo m : Nat} {hs : List (Nat × Nat)} {F : Nat → Nat → Bool} (h : RowsE w lo m hs F) : ∀ g ∈ hs, g.1 < w.heap.size := by
  intro g hg
  obtain ⟨j, hj, rfl⟩ := List.getElem_of_mem hg
  exact (h j hj).2.lt
theorem RowsE.lo {w : World} {lo m : Nat} {hs : List (Nat × Nat)} {F : Nat → Nat → Bool} (h : RowsE w lo m hs F) : ∀ g ∈ hs, lo ≤ g.1 := by
  intro g hg
  obtain ⟨j, hj, rfl⟩ := List.getElem_of_mem hg
  exact (h j hj).1
theorem RowsE.snoc {w : World} {lo m g c : Nat} {hs : List (Nat × Nat)} {F : Nat → Nat → Bool} (h : RowsE w lo m hs F) (hl : lo ≤ g) (hg : RowE w g m c (F hs.length)) : RowsE w lo m (hs ++ [(g, c)]) F := by
  intro v hv
  by_cases e : v < hs.length
  · rw [List.getElem_append_left e]; exact h v e
  · obtain rfl : v = hs.length := by simp at hv; omega
    rw [List.getElem_append_right (Nat.le_refl _)]
    simp only [Nat.sub_self, List.getElem_cons_zero]
    exact ⟨hl, hg⟩
theorem LstR.grO {e : TypeId} {s : Nat} {w w' : World} {b0 base : Nat} {l : List (List Value)} {ao : Option Addr} {n cap : Nat} {row : Option Nat} (h : LstR e s w b0 base l ao n cap) (hg : Gr w w' row) (hr : ∀ g, ob ao = some g → row ≠ some g) : LstR e s w' b0 base l ao n cap := by
  refine ⟨h.1, h.2.1, h.2.2.1, ?_⟩
  rcases h.2.2.2 with ⟨h1, h2, h3⟩ | h4
  · exact .inl ⟨h1, h2, fun g hgo => by
      obtain ⟨hb, cs, t, hc⟩ := h3 g hgo
      exact ⟨hb, cs, t, (hg.block g (lt_of_block hc) (fun e => hr g hgo e.symm)).trans hc⟩⟩
  · exact .inr (h4.kept hg (by
      rw [ownBlock_slice]
      cases hb : ob ao with
      | none => exact .inl rfl
      | some g => exact .inr (fun e => hr g hb e.symm)))
theorem LstR.lowE {e : TypeId} {s : Nat} {w : World} {b0 base : Nat} {l : List (List Value)} {ao : Option Addr} {n cap : Nat} (h : LstR e s w b0 base l ao n cap) : ∀ g, ob ao = some g → b0 ≤ g := by
  intro g hg
  rcases h.2.2.2 with ⟨_, _, h3⟩ | h4
  · exact (h3 g hg).1
  · rcases h4.2 with ⟨hv, _⟩ | ⟨g', cap', cur, hv, hb, _⟩
    · simp only [Value.slice.injEq] at hv
      rw [hv.1] at hg; simp [ob] at hg
    · simp only [Value.slice.injEq] at hv
      rw [hv.1] at hg
      simp [ob] at hg
      have := h.2.1
      omega
/-- What is known before a point: for each of m variables a row of n marks, and a row of n marks; from the block lo on it is new. -/
def StE (w : World) (lo m n : Nat) (fa : Option Addr) (hs : List (Nat × Nat)) (gp pc : Nat) (F : Nat → Nat → Bool) (P : Nat → Bool) : Prop :=
  hs.length = m ∧ RowsAt 1 w Any (hs.map (gRowE n)) fa ∧ RowsE w lo n hs F ∧ lo ≤ gp ∧ RowE w gp n pc P ∧ (∀ g ∈ hs, g.1 ≠ gp) ∧ (hs.map Prod.fst).Nodup ∧ ∀ b, ob fa = some b → lo ≤ b ∧ ∃ cs, w.heap[b]? = some (.cells cs 54 (0, 0))
/-- It is handed back. -/
def StR (m n : Nat) (F : Nat → Nat → Bool) (P : Nat → Bool) (w : World) (e : Ending) (w' : World) : Prop :=
  ∃ (fa : Option Addr) (fc : Nat) (hs : List (Nat × Nat)) (gp pc : Nat), e = .returned (.agg #[.slice fa m fc, .slice (some ⟨gp, 0, none⟩) n pc]) ∧ StE w' w.heap.size m n fa hs gp pc F P ∧ Gr w w' none
theorem RowE.off' {w : World} {g n c : Nat} {F : Nat → Bool} (h : RowE w g n c F) {b : Nat} {cs : Array Value} {t : TypeId} {x : Nat × Nat} (hb : w.heap[b]? = some (.cells cs t x)) (ht : t ≠ 4) : b ≠ g := by
  rintro rfl
  obtain ⟨arr, h1, _⟩ := h
  rw [hb] at h1
  simp at h1
  exact ht h1.2.1
/-- A list of rows has got one more. -/
theorem RowsE.grow {w w1 w4 : World} {b0 base cap n m lo gr c : Nat} {ao : Option Addr} {hs : List (Nat × Nat)} {F : Nat → Nat → Bool} (h : RowsE w lo m hs F) (hL : LstR 54 1 w b0 base (hs.map (gRowE m)) ao n cap) (hw : Gr w w1 none) (hr : RowE w1 gr m c (F hs.length)) (hlo : lo ≤ gr) (hgr : w.heap.size ≤ gr) (hg : Gr w1 w4 (ob ao)) : RowsE w4 lo m (hs ++ [(gr, c)]) F := by
  refine RowsE.snoc ((h.gr0 hw).gr hg fun g hgm e => ?_) hlo (hr.gr hg fun hb => ?_)
  · have hne : hs.map (gRowE m) ≠ [] := by
      intro h0
      have := List.map_eq_nil_iff.1 h0
      subst this
      simp at hgm
    obtain ⟨j, hj, rfl⟩ := List.getElem_of_mem hgm
    obtain ⟨cs, hc⟩ := hL.typ hne e
    exact (h j hj).2.off' hc (by decide) rfl
  · have := hL.lt _ hb
    omega
theorem hsE_nodup {hs : List (Nat × Nat)} {g c : Nat} (h : (hs.map Prod.fst).Nodup) (hl : ∀ x ∈ hs, x.1 < g) : ((hs ++ [(g, c)]).map Prod.fst).Nodup := by
  rw [List.map_append, List.nodup_append]
  refine ⟨h, by simp, ?_⟩
  intro x hx y hy
  obtain ⟨z, hz, rfl⟩ := List.mem_map.1 hx
  have := hl z hz
  simp at hy
  omega
/-- A state is written into its variable. -/
def putSt (w : World) (r : Nat) (a b : Value) : World := (w.setCell ⟨r, 0, none⟩ a).setCell ⟨r, 1, none⟩ b
theorem putSt_at {w : World} {r : Nat} {a0 b0 : Value} (h : w.heap[r]? = some (.cells #[a0, b0] 91 (0, 0))) (a b : Value) : (putSt w r a b).heap[r]? = some (.cells #[a, b] 91 (0, 0)) := by
  have h1 := row_set (k := 0) a h
  have h2 := row_set (k := 1) b h1
  simpa [putSt] using h2
theorem putSt_gr (w : World) (r : Nat) (a b : Value) : Gr w (putSt w r a b) (some r) := (own_set w r 0 a).setOwn rfl b
theorem StE.gr {w w' : World} {lo m n : Nat} {fa : Option Addr} {hs : List (Nat × Nat)} {gp pc : Nat} {F : Nat → Nat → Bool} {P : Nat → Bool} {row : Option Nat} (h : StE w lo m n fa hs gp pc F P) (hg : Gr w w' row) (hf : ∀ b, ob fa = some b → row ≠ some b) (hh : ∀ g ∈ hs, row ≠ some g.1) (hp : row ≠ some gp) : StE w' lo m n fa hs gp pc F P := by
  obtain ⟨h1, h2, h3, h4, h5, h6, h7, h8⟩ := h
  refine ⟨h1, h2.off hg hf, h3.gr hg hh, h4, h5.gr hg hp, h6, h7, fun b hb => ⟨(h8 b hb).1, ?_⟩⟩
  obtain ⟨cs, hc⟩ := (h8 b hb).2
  exact ⟨cs, by rw [hg.block b (lt_of_block hc) (fun e => hf b hb e.symm)]; exact hc⟩
theorem StE.gr0 {w w' : World} {lo m n : Nat} {fa : Option Addr} {hs : List (Nat × Nat)} {gp pc : Nat} {F : Nat → Nat → Bool} {P : Nat → Bool} (h : StE w lo m n fa hs gp pc F P) (hg : Gr w w' none) : StE w' lo m n fa hs gp pc F P := h.gr hg (by simp) (by simp) (by simp)
set_option maxRecDepth 100000 in
set_option maxHeartbeats 4000000 in
theorem l4Start_any (m n : Nat) (w : World) (hm : m ≤ 6) (hn : n ≤ 100) :
    Calls Try.prog 111 #[.int .i64 m, .int .i64 n] w (StR m n (fun _ _ => false) (fun _ => false) w) := by
  have hmk := fun w : World => run_make_row' (P := Try.prog) 54 4 (.bool false) 1 Try.underlying54 Binfo rfl .i64 .i64 n (by omega) (by omega) w
  go_enter Try.func111, Try.ntmps111
  go_upto_region 2 with fail
  obtain ⟨wA, hwA⟩ : ∃ wA : World, wA = ((w.alloc (.cells #[.slice none 0 0, .slice none 0 0] 91)).alloc (.cells (madeCells #[.bool false] n) 4)).alloc (.cells #[.slice none 0 0, .slice (some ⟨w.heap.size + 1, 0, none⟩) n n] 91) := ⟨_, rfl⟩
  have hE0 : wA.heap[w.heap.size]? = some (.cells #[.slice none 0 0, .slice none 0 0] 91 (0, 0)) := by rw [hwA]; exact heap3_0 _ _ _ _
  have hR1 : RowE wA (w.heap.size + 1) n n (fun _ => false) := by
    rw [hwA]
    have := (Row.new (w.alloc (.cells #[.slice none 0 0, .slice none 0 0] 91)) n).e
    have := this.gr0 ((Gr.refl _ none).alloc (.cells #[.slice none 0 0, .slice (some ⟨w.heap.size + 1, 0, none⟩) n n] 91))
    simpa using this
  have hE2 : wA.heap[w.heap.size + 1 + 1]? = some (.cells #[.slice none 0 0, .slice (some ⟨w.heap.size + 1, 0, none⟩) n n] 91 (0, 0)) := by rw [hwA]; exact heap3_2 _ _ _ _
  have hgA : Gr w wA none := by rw [hwA]; exact (((Gr.refl _ _).alloc _).alloc _).alloc _
  have hszA : wA.heap.size = w.heap.size + 1 + 1 + 1 := by rw [hwA]; simp
  rw [← hwA]
  have HSZ := Lib.hid hszA
  have HE0 := Lib.hid hE0
  have HR1 := Lib.hid hR1
  have HE2 := Lib.hid hE2
  have HGA := Lib.hid hgA
  obtain ⟨sv, hsv⟩ : ∃ sv, w.heap.size + 1 + 1 = sv := ⟨_, rfl⟩
  obtain ⟨gp, hgp⟩ : ∃ gp, w.heap.size + 1 = gp := ⟨_, rfl⟩
  rw [hsv] at HE2 ⊢
  rw [hgp] at HE2 HR1 ⊢
  have HSV := Lib.hid (show sv = w.heap.size + 2 ∧ gp = w.heap.size + 1 ∧ wA.heap.size = w.heap.size + 3 by omega)
  have hL0 : LstR 54 1 wA wA.heap.size wA.heap.size (([] : List (Nat × Nat)).map (gRowE n)) none 0 0 := LstR.nil _ _ _ (Nat.le_refl _)
  clear hwA hE0 hR1 hE2 hgA hszA hsv hgp
  go_wp2_with fail
  go_loopw [6] (fun i wr => ∃ (k cap : Nat) (ao : Option Addr) (hs : List (Nat × Nat)), k ≤ m ∧ i = .int .i64 k ∧ hs.length = k ∧ (hs.map Prod.fst).Nodup ∧ wr.heap[sv]? = some (.cells #[.slice ao k cap, .slice (some ⟨gp, 0, none⟩) n n] 91 (0, 0)) ∧ LstR 54 1 wr wA.heap.size wA.heap.size (hs.map (gRowE n)) ao k cap ∧ RowsE wr wA.heap.size n hs (fun _ _ => false) ∧ (k = 0 → ao = none) ∧ Gr wA wr (some sv)) (fun i _ => m - (intOf i).toNat)
  case atStart => exact ⟨0, 0, none, [], Nat.zero_le _, rfl, rfl, List.nodup_nil, HE2.out, hL0, (fun j hj => absurd hj (by simp)), (fun _ => rfl), Gr.refl _ _⟩
  case round =>
    obtain ⟨k, cap, ao, hs, hk, rfl, hhs, hnd, hsvb, hLs, hRs, hnb, hg⟩ := hrel
    have HNB := Lib.hid hnb
    have HHS := Lib.hid hhs
    have HND := Lib.hid hnd
    have HSVB := Lib.hid hsvb
    have HLS := Lib.hid hLs
    have HRS := Lib.hid hRs
    have HG := Lib.hid hg
    have s0 : wr.cell? ⟨sv, 0, none⟩ = some (.slice ao k cap) := cell_of_row _ _ _ _ _ _ hsvb
    have s1 : wr.cell? ⟨sv, 1, none⟩ = some (.slice (some ⟨gp, 0, none⟩) n n) := cell_of_row _ _ _ _ _ _ hsvb
    have HAO := Lib.hid (show ∀ g, ob ao = some g → wA.heap.size ≤ g ∧ g < wr.heap.size from fun g h => ⟨hLs.lowE g h, hLs.lt g h⟩)
    clear hhs hnd hsvb hLs hRs hg hL0 hnb
    by_cases hlt : k < m
    · have s0A := fun A => ((Gr.refl wr none).alloc A).cell s0 (by simp)
      have s0B := fun A B => (((Gr.refl wr none).alloc A).alloc B).cell s0 (by simp)
      have SVB := Lib.hid (fun (A B : Obj) (w4 : World) (hgo : Gr ((wr.drew.alloc A).alloc B) w4 (ob ao)) => show w4.heap[sv]? = some (.cells #[.slice ao k cap, .slice (some ⟨gp, 0, none⟩) n n] 91 (0, 0)) by
        have hlt := lt_of_block HSVB.out
        have h1 : Gr wr ((wr.drew.alloc A).alloc B) none := ((Gr.refl _ _).drew.alloc _).alloc _
        rw [hgo.block sv (by have := h1.size; omega) (fun e => by have := (HAO.out sv e.symm).1; have := HSV.out; omega), h1.block sv hlt (by simp)]
        exact HSVB.out)
      go_upto_region 5 with fail
      go_region_law (refine step_app_r wr _ rfl (.tmp 16) (.tmp 19) 55 rfl 54 1 24 (.slice none 0 0) Try.underlying55 SBinfo rfl (by decide) (by decide) wA.heap.size wA.heap.size ao cap k _ (gRowE n (wr.heap.size, n)) rfl HLS.out (((Gr.refl _ _).drew.alloc _).alloc _) (wr.heap.size + 1) 1 rfl _ (heap2_1 _ _ _) rfl rfl (by intro u hu; simp [gRowE] at hu; subst hu; rfl) (by omega) HG.out.size ?_; intro g cap' w4 hL4 hg4 hgo; have t0 : w4.cell? ⟨sv, 0, none⟩ = some (.slice ao k cap) := cell_of_row _ _ _ _ _ _ (SVB.out _ _ _ hgo); have tf : w4.frozen? ⟨sv, 0, none⟩ = false := by (have := SVB.out _ _ _ hgo; simp [World.frozen?, this]))
      all_goals
        have hgo' : Gr ((wr.drew.alloc (.cells (madeCells #[.bool false] n) 4)).alloc (.cells #[.slice (some ⟨wr.heap.size, 0, none⟩) n n] 54)) w4 (ob ao) := hgo
        have HGO := Lib.hid hgo'
        have HL4 := Lib.hid hL4
        have HSB4 := Lib.hid (SVB.out _ _ _ hgo')
        clear hgo hgo' hL4 hg4 s0A s0B s0 s1
        go_wp2_with fail
        go_roundw
        case rel =>
          have hr0 : RowE ((wr.drew.alloc (.cells (madeCells #[.bool false] n) 4)).alloc (.cells #[.slice (some ⟨wr.heap.size, 0, none⟩) n n] 54)) wr.heap.size n n (fun _ => false) := (Row.e (Row.new wr.drew n)).gr0 ((Gr.refl _ none).alloc _)
          have hw1 : Gr wr ((wr.drew.alloc (.cells (madeCells #[.bool false] n) 4)).alloc (.cells #[.slice (some ⟨wr.heap.size, 0, none⟩) n n] 54)) none := ((Gr.refl _ _).drew.alloc _).alloc _
          have hsv := HSV.out
          have hsz := HG.out.size
          refine ⟨k + 1, cap', some ⟨g, 0, none⟩, hs ++ [(wr.heap.size, n)], by omega, by go_num, by rw [List.length_append, HHS.out]; rfl, hsE_nodup HND.out (fun x hx => HRS.out.lt x hx), ?_, ?_, ?_, (fun h => by omega), ?_⟩
          · have := row_set (k := 0) (.slice (some ⟨g, 0, none⟩) (k + 1) cap') HSB4.out
            simpa using this
          · rw [List.map_append]
            exact HL4.out.grO (own_set _ _ _ _) (fun x hx e => by have := HL4.out.lowE x hx; simp at e; omega)
          · refine RowsE.gr (HRS.out.grow HLS.out hw1 hr0 (by omega) (Nat.le_refl _) HGO.out) (own_set _ _ _ _) (fun x hx e => ?_)
            have : wA.heap.size ≤ x.1 := by
              rcases List.mem_append.1 hx with h | h
              · exact HRS.out.lo x h
              · simp at h; subst h; exact hsz
            simp at e
            omega
          · exact ((HG.out.trans hw1 (fun r e => by simp at e)).trans HGO.out (fun r e => .inr (HAO.out r e).1)).setOwn rfl _
        case measure => simp [intOf]; omega
    · obtain rfl : k = m := by omega
      have hsv := HSV.out
      have hsz := HG.out.size
      have hrb : wr.heap[w.heap.size]? = some (.cells #[.slice none 0 0, .slice none 0 0] 91 (0, 0)) := by rw [HG.out.block _ (by omega) (by simp; omega)]; exact HE0.out
      have HRP := Lib.hid (HR1.out.gr HG.out (by simp; omega))
      have r0 : wr.cell? ⟨w.heap.size, 0, none⟩ = some (.slice none 0 0) := cell_of_row _ _ _ _ _ _ hrb
      have r1 : wr.cell? ⟨w.heap.size, 1, none⟩ = some (.slice none 0 0) := cell_of_row _ _ _ _ _ _ hrb
      have rf : ∀ j, wr.frozen? ⟨w.heap.size, j, none⟩ = false := fun j => by simp [World.frozen?, hrb]
      have HRB := Lib.hid hrb
      obtain ⟨rb, hrbn⟩ : ∃ rb, w.heap.size = rb := ⟨_, rfl⟩
      have HRBN := Lib.hid hrbn
      rw [hrbn] at r0 r1 rf ⊢
      clear hrb hsv hrbn
      go_wp2_with fail
      obtain ⟨wF, hwF⟩ : ∃ wF, wF = putSt wr rb (.slice ao k cap) (.slice (some ⟨gp, 0, none⟩) n n) := ⟨_, rfl⟩
      have hF := hwF.symm
      unfold putSt at hF
      rw [hF]
      have hFB : wF.heap[rb]? = some (.cells #[.slice ao k cap, .slice (some ⟨gp, 0, none⟩) n n] 91 (0, 0)) := by rw [hwF, ← HRBN.out]; exact putSt_at HRB.out _ _
      have hgF : Gr wr wF (some rb) := by rw [hwF]; exact putSt_gr _ _ _ _
      have k0 : wF.cell? ⟨rb, 0, none⟩ = some (.slice ao k cap) := cell_of_row _ _ _ _ _ _ hFB
      have k1 : wF.cell? ⟨rb, 1, none⟩ = some (.slice (some ⟨gp, 0, none⟩) n n) := cell_of_row _ _ _ _ _ _ hFB
      have hrbn := HRBN.out
      have hsv := HSV.out
      refine bodyPost_ret (v := .agg #[.slice ao k cap, .slice (some ⟨gp, 0, none⟩) n n]) ?_ rfl ⟨ao, cap, hs, gp, n, rfl, ⟨HHS.out, ?_, ?_, by omega, ?_, ?_, HND.out, ?_⟩, ?_⟩
      · simp [results, Try.results111, go_sem, k0, k1]
      · exact HLS.out.rows.off hgF (fun b hb e => by have := (HAO.out b hb).1; simp at e; omega)
      · exact fun j hj => ⟨by have := (HRS.out j hj).1; omega, (HRS.out j hj).2.gr hgF (by have := (HRS.out j hj).1; simp; omega)⟩
      · exact HRP.out.gr hgF (by simp; omega)
      · intro x hx e
        have := HRS.out.lo x hx
        omega
      · intro b hb
        refine ⟨by have := (HAO.out b hb).1; omega, ?_⟩
        by_cases hm0 : hs.map (gRowE n) = []
        · have h0 : hs = [] := List.map_eq_nil_iff.1 hm0
          have hk0 : k = 0 := by rw [← HHS.out, h0]; rfl
          subst hk0
          have := HNB.out rfl
          rw [this] at hb; simp [ob] at hb
        · obtain ⟨cs, hc⟩ := HLS.out.typ hm0 hb
          exact ⟨cs, by rw [hgF.block b (lt_of_block hc) (by have := (HAO.out b hb).1; simp; omega)]; exact hc⟩
      · exact (HGA.out.trans HG.out (fun r e => .inr (by cases e; omega))).trans hgF (fun r e => .inr (by cases e; omega))
theorem run_app_e (w : World) (ty : TypeId) (g0 gs n c : Nat) (F : Nat → Bool) (hg0 : w.heap[g0]? = some (.cells #[] 4 (0, 0))) (hF : RowE w gs n c F) (hn2 : n ≤ 1000) :
    ∃ (g cap' : Nat) (w' : World), (Builtin.append_ #[54, 54] ty #[.slice (some ⟨g0, 0, none⟩) 0 0, .slice (some ⟨gs, 0, none⟩) n c]).run Try.prog w = .ok (.slice (some ⟨g, 0, none⟩) n cap') w' ∧ RowE w' g n cap' F ∧ g0 ≤ g ∧ Gr w w' (some g0) := by
  obtain ⟨i0, hi, hzz⟩ := Option.map_eq_some_iff.1 Binfo
  simp only [Prod.mk.injEq] at hzz
  obtain ⟨hz0, hz1, hz2⟩ := hzz
  have hlt0 : g0 < w.heap.size := lt_of_block hg0
  have hown : w.ownsRow g0 4 1 (.slice (some ⟨g0, 0, none⟩) 0 0) 0 [] := ⟨rfl, .inr ⟨g0, 0, #[], rfl, Nat.le_refl _, hg0, Nat.le_refl _, by unfold maxLen; omega, rfl, by simp⟩⟩
  obtain ⟨v', w', hrun, h1, h2, h3⟩ := run_append_own (P := Try.prog) (w := w) g0 54 ty 4 i0 _ 1 1 Try.underlying54 hi hz0 hz1 hz2 rfl (by decide) _ 0 _ hown ⟨gs, 0, none⟩ n c ((List.range n).map fun j => .bool (F j)) (by simp) (fun j u hu => by
    obtain ⟨hj, rfl⟩ := List.getElem?_eq_some_iff.1 hu
    have hj' : j < n := by simpa using hj
    have := hF.cell hj'
    simp only [List.getElem_map, List.getElem_range]
    by_cases e : j = 0
    · subst e; simpa [Addr.add] using this
    · simpa [Addr.add, e] using this) (fun u hu => by simp at hu; obtain ⟨k, _, rfl⟩ := hu; rfl) (by unfold maxLen; omega) (by omega) (by omega)
  have hne : v' ≠ .slice none 0 0 := fun e => by have := (h3.1 e).1; simp at this
  obtain ⟨g, cap', rfl⟩ : ∃ g cap', v' = .slice (some ⟨g, 0, none⟩) n cap' := by
    rcases h1.2 with ⟨hv, _⟩ | ⟨g, cap', cur, hv, _⟩
    · exact absurd hv hne
    · rw [Nat.zero_add] at hv; exact ⟨g, cap', hv⟩
  rw [Nat.zero_add] at h1
  obtain ⟨hR, hb⟩ := RowE.of_own (F := F) h1 (fun j hj => by simp [hj])
  exact ⟨g, cap', w', hrun, hR, hb, h2⟩
theorem step_app_e (w : World) {ops : Array Oper} {o : Oper} {a : Act} {K : Act → World → Prop} {Q : Exit → Act → World → Prop} {E : Prop} (hgd : o.guard = none) (x y : Operand)
    (ho : o.op = .call { callee := .builtin .append, args := #[x, y], argTypes := #[54, 54] })
    (g0 gs n c : Nat) (F : Nat → Bool) (hs : a.eval x = .slice (some ⟨g0, 0, none⟩) 0 0) (hg0 : w.heap[g0]? = some (.cells #[] 4 (0, 0))) (hx : a.eval y = .slice (some ⟨gs, 0, none⟩) n c) (hF : RowE w gs n c F) (hn2 : n ≤ 1000)
    (h : ∀ (g cap' : Nat) (w' : World), RowE w' g n cap' F → g0 ≤ g → Gr w w' (some g0) → K (a.put o.dst (.slice (some ⟨g, 0, none⟩) n cap')) w') : if Region.wanted o (yielded ops a.tmps) = true then Oper.wp Try.prog o a w K Q else E := by
  obtain ⟨g, cap', w', hrun, h1, h2, h3⟩ := run_app_e w o.type g0 gs n c F hg0 hF hn2
  have hw : Region.wanted o (yielded ops a.tmps) = true := by simp [Region.wanted, hgd]
  rw [if_pos hw]
  unfold Oper.wp
  simp [execOp, ho, resolve, invoke, builtin, hs, hx, hrun, Result.andThen]
  exact h g cap' w' h1 h2 h3
theorem hsE_cell {w : World} {hs : List (Nat × Nat)} {m : Nat} {a : Option Addr} (h : RowsAt 1 w Any (hs.map (gRowE m)) a) {v : Nat} (hv : v < hs.length) : ∃ b off, a = some ⟨b, off, none⟩ ∧ w.cell? ⟨b, off + v, none⟩ = some (.slice (some ⟨hs[v].1, 0, none⟩) m hs[v].2) := by
  obtain ⟨b, off, e, -, hc⟩ := h v (by simpa using hv)
  refine ⟨b, off, e, ?_⟩
  have := hc 0 (.slice (some ⟨hs[v].1, 0, none⟩) m hs[v].2) (by simp [gRowE])
  simpa using this
set_option maxRecDepth 100000 in
set_option maxHeartbeats 4000000 in
theorem l4Copy_any (lo m n : Nat) (fa : Option Addr) (fc gq pc : Nat) (hh : List (Nat × Nat)) (F : Nat → Nat → Bool) (P : Nat → Bool) (w : World) (hS : StE w lo m n fa hh gq pc F P) (hm : m ≤ 6) (hn : n ≤ 100) :
    Calls Try.prog 128 #[.agg #[.slice fa m fc, .slice (some ⟨gq, 0, none⟩) n pc]] w (StR m n F P w) := by
  have HST := Lib.hid hS
  have hgB : Gr w (((w.alloc (.cells #[.slice fa m fc, .slice (some ⟨gq, 0, none⟩) n pc] 91)).alloc (.cells #[.slice none 0 0, .slice none 0 0] 91)).alloc (.cells #[] 4)) none := (((Gr.refl _ _).alloc _).alloc _).alloc _
  obtain ⟨wB, hwB⟩ : ∃ wB : World, wB = ((w.alloc (.cells #[.slice fa m fc, .slice (some ⟨gq, 0, none⟩) n pc] 91)).alloc (.cells #[.slice none 0 0, .slice none 0 0] 91)).alloc (.cells #[] 4) := ⟨_, rfl⟩
  have hB0 : wB.heap[w.heap.size]? = some (.cells #[.slice fa m fc, .slice (some ⟨gq, 0, none⟩) n pc] 91 (0, 0)) := by rw [hwB]; exact heap3_0 _ _ _ _
  have hB1 : wB.heap[w.heap.size + 1]? = some (.cells #[.slice none 0 0, .slice none 0 0] 91 (0, 0)) := by rw [hwB]; exact heap3_1 _ _ _ _
  have hB2 : wB.heap[w.heap.size + 1 + 1]? = some (.cells #[] 4 (0, 0)) := by rw [hwB]; exact heap3_2 _ _ _ _
  have hszB : wB.heap.size = w.heap.size + 1 + 1 + 1 := by rw [hwB]; simp
  have hC2 : (((w.alloc (.cells #[.slice fa m fc, .slice (some ⟨gq, 0, none⟩) n pc] 91)).alloc (.cells #[.slice none 0 0, .slice none 0 0] 91)).alloc (.cells #[] 4)).heap[w.heap.size + 1 + 1]? = some (.cells #[] 4 (0, 0)) := heap3_2 _ _ _ _
  have HRC := Lib.hid (hS.2.2.2.2.1.gr0 hgB)
  rw [← hwB] at hgB
  have HSB := Lib.hid (hS.gr0 hgB)
  have HGB := Lib.hid hgB
  have HB0 := Lib.hid hB0
  have HB1 := Lib.hid hB1
  have HB2 := Lib.hid hB2
  have HSZB := Lib.hid hszB
  clear hgB hB0 hB1 hB2 hszB hS
  go_enter Try.func128, Try.ntmps128
  go_upto_region 2 with (at_builtin; refine app_e _ rfl (.tmp 5) (.tmp 7) rfl (w.heap.size + 1 + 1) gq n pc P rfl hC2 rfl HRC.out (by omega) ?_; rintro gp cap0 w2 hR2 hgg hg2)
  rw [← hwB] at hg2
  have HRP2 := Lib.hid hR2
  have HG2 := Lib.hid hg2
  clear hR2 hg2 hC2 HRC hwB
  obtain ⟨wA, hwA⟩ : ∃ wA : World, wA = w2.alloc (.cells #[.slice none 0 0, .slice (some ⟨gp, 0, none⟩) n cap0] 91) := ⟨_, rfl⟩
  have hgA : Gr w2 wA none := by rw [hwA]; exact (Gr.refl _ _).alloc _
  have hszA : wA.heap.size = w2.heap.size + 1 := by rw [hwA]; simp
  have hE2 : wA.heap[w2.heap.size]? = some (.cells #[.slice none 0 0, .slice (some ⟨gp, 0, none⟩) n cap0] 91 (0, 0)) := by rw [hwA]; exact heap1_0 _ _
  rw [← hwA]
  have hszB := HSZB.out
  have hwlt : ∀ x, x < w.heap.size → x ≠ w.heap.size + 1 + 1 := fun x hx => by omega
  have hfl : ∀ b, ob fa = some b → b < w.heap.size := fun b hb => by obtain ⟨cs, hc⟩ := (HST.out.2.2.2.2.2.2.2 b hb).2; exact lt_of_block hc
  have HSA := Lib.hid (show StE wA lo m n fa hh gq pc F P from (HSB.out.gr HG2.out (fun b hb e => by have := hfl b hb; simp at e; omega) (fun x hx e => by have := HST.out.2.2.1.lt x hx; simp at e; omega) (by have := HST.out.2.2.2.2.1.lt; simp; omega)).gr0 hgA)
  have HA0 := Lib.hid (show wA.heap[w.heap.size]? = some (.cells #[.slice fa m fc, .slice (some ⟨gq, 0, none⟩) n pc] 91 (0, 0)) by
    rw [hgA.block _ (by have := HG2.out.size; omega) (by simp), HG2.out.block _ (by omega) (by simp; omega)]; exact HB0.out)
  have HA1 := Lib.hid (show wA.heap[w.heap.size + 1]? = some (.cells #[.slice none 0 0, .slice none 0 0] 91 (0, 0)) by
    rw [hgA.block _ (by have := HG2.out.size; omega) (by simp), HG2.out.block _ (by omega) (by simp)]; exact HB1.out)
  have HRPA := Lib.hid (HRP2.out.gr0 hgA)
  have HGA := Lib.hid (show Gr w wA none from (HGB.out.trans HG2.out (fun r e => .inr (by cases e; omega))).trans0 hgA)
  have HE2 := Lib.hid hE2
  obtain ⟨sv, hsv⟩ : ∃ sv, w2.heap.size = sv := ⟨_, rfl⟩
  obtain ⟨rb, hrb⟩ : ∃ rb, w.heap.size + 1 = rb := ⟨_, rfl⟩
  have HSV := Lib.hid (show w.heap.size + 1 = rb ∧ rb < gp ∧ gp < sv ∧ wA.heap.size = sv + 1 by have := HRP2.out.lt; have := HG2.out.size; omega)
  rw [hsv] at HE2 ⊢
  rw [hrb] at HA1 ⊢
  have hL0 : LstR 54 1 wA wA.heap.size wA.heap.size (([] : List (Nat × Nat)).map (gRowE n)) none 0 0 := LstR.nil _ _ _ (Nat.le_refl _)
  have a0 : wA.cell? ⟨w.heap.size, 0, none⟩ = some (.slice fa m fc) := cell_of_row _ _ _ _ _ _ HA0.out
  have HA00 := Lib.hid a0
  clear hwA hgA hszA hE2 hsv hrb hszB hwlt hfl hgg a0
  go_wp2_with fail
  go_loopw [4] (fun i wr => ∃ (k cap : Nat) (ao : Option Addr) (hs : List (Nat × Nat)), k ≤ m ∧ i = .int .i64 k ∧ hs.length = k ∧ (hs.map Prod.fst).Nodup ∧ wr.heap[sv]? = some (.cells #[.slice ao k cap, .slice (some ⟨gp, 0, none⟩) n cap0] 91 (0, 0)) ∧ LstR 54 1 wr wA.heap.size wA.heap.size (hs.map (gRowE n)) ao k cap ∧ RowsE wr wA.heap.size n hs F ∧ (k = 0 → ao = none) ∧ Gr wA wr (some sv)) (fun i _ => m - (intOf i).toNat)
  case atStart => exact ⟨0, 0, none, [], Nat.zero_le _, rfl, rfl, List.nodup_nil, HE2.out, hL0, (fun j hj => absurd hj (by simp)), (fun _ => rfl), Gr.refl _ _⟩
  case round =>
    obtain ⟨k, cap, ao, hs, hk, rfl, hhs, hnd, hsvb, hLs, hRs, hnb, hg⟩ := hrel
    have HNB := Lib.hid hnb
    have HHS := Lib.hid hhs
    have HND := Lib.hid hnd
    have HSVB := Lib.hid hsvb
    have HLS := Lib.hid hLs
    have HRS := Lib.hid hRs
    have HG := Lib.hid hg
    have s0 : wr.cell? ⟨sv, 0, none⟩ = some (.slice ao k cap) := cell_of_row _ _ _ _ _ _ hsvb
    have s1 : wr.cell? ⟨sv, 1, none⟩ = some (.slice (some ⟨gp, 0, none⟩) n cap0) := cell_of_row _ _ _ _ _ _ hsvb
    have HAO := Lib.hid (show ∀ g, ob ao = some g → wA.heap.size ≤ g ∧ g < wr.heap.size from fun g h => ⟨hLs.lowE g h, hLs.lt g h⟩)
    have a0 : wr.cell? ⟨w.heap.size, 0, none⟩ = some (.slice fa m fc) := hg.cell HA00.out (by have := HSV.out; simp; omega)
    have hfl : ∀ b, ob fa = some b → b < w.heap.size := fun b hb => by obtain ⟨cs, hc⟩ := (HST.out.2.2.2.2.2.2.2 b hb).2; exact lt_of_block hc
    have HSR := Lib.hid (show StE wr lo m n fa hh gq pc F P from HSA.out.gr hg (fun b hb e => by have := hfl b hb; have := HSV.out; simp at e; omega) (fun x hx e => by have := HST.out.2.2.1.lt x hx; have := HSV.out; simp at e; omega) (by have := HST.out.2.2.2.2.1.lt; have := HSV.out; simp; omega))
    clear hhs hnd hsvb hLs hRs hg hL0 hnb hfl
    by_cases hlt : k < m
    · have hkh : k < hh.length := by rw [HSR.out.1]; exact hlt
      obtain ⟨bf, of, rfl, e0⟩ := hsE_cell HSR.out.2.1 hkh
      have hrow := (HSR.out.2.2.1 k hkh).2
      obtain ⟨hk1, hk2⟩ : ∃ x, hh[k] = x := ⟨_, rfl⟩
      obtain ⟨gk, ck⟩ := hk1
      rw [hk2] at e0 hrow
      have HROW := Lib.hid hrow
      have s0A := fun A => ((Gr.refl wr none).alloc A).cell s0 (by simp)
      have a0A := fun A => ((Gr.refl wr none).alloc A).cell a0 (by simp)
      have e0A := fun A => ((Gr.refl wr none).alloc A).cell e0 (by simp)
      have GR3 := Lib.hid (fun (A : Obj) (w3 : World) (h : Gr (wr.drew.alloc A) w3 (some wr.heap.size)) => show Gr wr w3 none from ((Gr.refl _ none).drew.alloc _).trans h (fun r e => .inr (by cases e; exact Nat.le_refl _)))
      have SVB := Lib.hid (fun (B : Obj) (w3 w4 : World) (h3 : Gr wr w3 none) (hgo : Gr (w3.alloc B) w4 (ob ao)) => show w4.heap[sv]? = some (.cells #[.slice ao k cap, .slice (some ⟨gp, 0, none⟩) n cap0] 91 (0, 0)) by
        have hlt := lt_of_block HSVB.out
        have h1 : Gr wr (w3.alloc B) none := h3.alloc _
        rw [hgo.block sv (by have := h1.size; omega) (fun e => by have := (HAO.out sv e.symm).1; have := HSV.out; omega), h1.block sv hlt (by simp)]
        exact HSVB.out)
      clear hrow hk2
      go_upto_region 5 with fail
      go_region_law (first | (refine step_app_e _ rfl (.tmp 19) (.tmp 24) rfl wr.heap.size gk n ck (F k) rfl (heap1_0 _ _) rfl (HROW.out.gr0 ((Gr.refl _ _).drew.alloc _)) (by omega) ?_; intro g3 cap3 w3 hR3 hb3 hg3; have HG3 := Lib.hid (GR3.out _ w3 hg3); have HR3 := Lib.hid hR3; have HB3 := Lib.hid hb3; have s03 := HG3.out.cell s0 (by simp); have s03A := fun A => (HG3.out.alloc A).cell s0 (by simp); clear hg3 hR3 hb3) | (refine step_app_r w3 _ rfl (.tmp 18) (.tmp 26) 55 rfl 54 1 24 (.slice none 0 0) Try.underlying55 SBinfo rfl (by decide) (by decide) wA.heap.size wA.heap.size ao cap k _ (gRowE n (g3, cap3)) rfl (HLS.out.gr HG3.out) ((Gr.refl _ _).alloc _) w3.heap.size 1 rfl _ (heap1_0 _ _) rfl rfl (by intro u hu; simp [gRowE] at hu; subst hu; rfl) (by omega) (Nat.le_trans HG.out.size HG3.out.size) ?_; intro g cap' w4 hL4 hg4 hgo; have t0 : w4.cell? ⟨sv, 0, none⟩ = some (.slice ao k cap) := cell_of_row _ _ _ _ _ _ (SVB.out _ w3 w4 HG3.out hgo); have tf : w4.frozen? ⟨sv, 0, none⟩ = false := by (have := SVB.out _ w3 w4 HG3.out hgo; simp [World.frozen?, this])))
      all_goals
        have hgo' : Gr (w3.alloc (.cells #[.slice (some ⟨g3, 0, none⟩) n cap3] 54)) w4 (ob ao) := hgo
        have HGO := Lib.hid hgo'
        have HL4 := Lib.hid hL4
        have HSB4 := Lib.hid (SVB.out _ w3 w4 HG3.out hgo')
        clear hgo hgo' hL4 hg4 s0A a0A e0A s0 s1 s03 s03A a0 e0
        go_wp2_with fail
        go_roundw
        case rel =>
          have hr0 : RowE (w3.alloc (.cells #[.slice (some ⟨g3, 0, none⟩) n cap3] 54)) g3 n cap3 (F hs.length) := by rw [HHS.out]; exact HR3.out.gr0 ((Gr.refl _ none).alloc _)
          have hw1 : Gr wr (w3.alloc (.cells #[.slice (some ⟨g3, 0, none⟩) n cap3] 54)) none := HG3.out.alloc _
          have hsv := HSV.out
          have hsz := HG.out.size
          have hb3 := HB3.out
          refine ⟨k + 1, cap', some ⟨g, 0, none⟩, hs ++ [(g3, cap3)], by omega, by go_num, by rw [List.length_append, HHS.out]; rfl, hsE_nodup HND.out (fun x hx => by have := HRS.out.lt x hx; omega), ?_, ?_, ?_, (fun h => by omega), ?_⟩
          · have := row_set (k := 0) (.slice (some ⟨g, 0, none⟩) (k + 1) cap') HSB4.out
            simpa using this
          · rw [List.map_append]
            exact HL4.out.grO (own_set _ _ _ _) (fun x hx e => by have := HL4.out.lowE x hx; simp at e; omega)
          · refine RowsE.gr (HRS.out.grow HLS.out hw1 hr0 (by omega) hb3 HGO.out) (own_set _ _ _ _) (fun x hx e => ?_)
            have : wA.heap.size ≤ x.1 := by
              rcases List.mem_append.1 hx with h | h
              · exact HRS.out.lo x h
              · simp at h; subst h; show wA.heap.size ≤ g3; omega
            simp at e
            omega
          · exact ((HG.out.trans hw1 (fun r e => by simp at e)).trans HGO.out (fun r e => .inr (HAO.out r e).1)).setOwn rfl _
        case measure => simp [intOf]; omega
    · obtain rfl : k = m := by omega
      have hsv := HSV.out
      have hsz := HG.out.size
      have hrb : wr.heap[rb]? = some (.cells #[.slice none 0 0, .slice none 0 0] 91 (0, 0)) := by rw [HG.out.block _ (by omega) (by simp; omega)]; exact HA1.out
      have HRP := Lib.hid (HRPA.out.gr HG.out (by simp; omega))
      have r0 : wr.cell? ⟨rb, 0, none⟩ = some (.slice none 0 0) := cell_of_row _ _ _ _ _ _ hrb
      have r1 : wr.cell? ⟨rb, 1, none⟩ = some (.slice none 0 0) := cell_of_row _ _ _ _ _ _ hrb
      have rf : ∀ j, wr.frozen? ⟨rb, j, none⟩ = false := fun j => by simp [World.frozen?, hrb]
      have HRB := Lib.hid hrb
      clear hrb hsv
      go_wp2_with fail
      obtain ⟨wF, hwF⟩ : ∃ wF, wF = putSt wr rb (.slice ao k cap) (.slice (some ⟨gp, 0, none⟩) n cap0) := ⟨_, rfl⟩
      have hF := hwF.symm
      unfold putSt at hF
      rw [hF]
      have hFB : wF.heap[rb]? = some (.cells #[.slice ao k cap, .slice (some ⟨gp, 0, none⟩) n cap0] 91 (0, 0)) := by rw [hwF]; exact putSt_at HRB.out _ _
      have hgF : Gr wr wF (some rb) := by rw [hwF]; exact putSt_gr _ _ _ _
      have k0 : wF.cell? ⟨rb, 0, none⟩ = some (.slice ao k cap) := cell_of_row _ _ _ _ _ _ hFB
      have k1 : wF.cell? ⟨rb, 1, none⟩ = some (.slice (some ⟨gp, 0, none⟩) n cap0) := cell_of_row _ _ _ _ _ _ hFB
      have hsv := HSV.out
      refine bodyPost_ret (v := .agg #[.slice ao k cap, .slice (some ⟨gp, 0, none⟩) n cap0]) ?_ rfl ⟨ao, cap, hs, gp, cap0, rfl, ⟨HHS.out, ?_, ?_, by omega, ?_, ?_, HND.out, ?_⟩, ?_⟩
      · simp [results, Try.results128, go_sem, k0, k1]
      · exact HLS.out.rows.off hgF (fun b hb e => by have := (HAO.out b hb).1; simp at e; omega)
      · exact fun j hj => ⟨by have := (HRS.out j hj).1; omega, (HRS.out j hj).2.gr hgF (by have := (HRS.out j hj).1; simp; omega)⟩
      · exact HRP.out.gr hgF (by simp; omega)
      · intro x hx e
        have := HRS.out.lo x hx
        omega
      · intro b hb
        refine ⟨by have := (HAO.out b hb).1; omega, ?_⟩
        by_cases hm0 : hs.map (gRowE n) = []
        · have h0 : hs = [] := List.map_eq_nil_iff.1 hm0
          have hk0 : k = 0 := by rw [← HHS.out, h0]; rfl
          subst hk0
          have := HNB.out rfl
          rw [this] at hb; simp [ob] at hb
        · obtain ⟨cs, hc⟩ := HLS.out.typ hm0 hb
          exact ⟨cs, by rw [hgF.block b (lt_of_block hc) (by have := (HAO.out b hb).1; simp; omega)]; exact hc⟩
      · exact (HGA.out.trans HG.out (fun r e => .inr (by cases e; omega))).trans hgF (fun r e => .inr (by cases e; omega))
end Go.Proofs.Ytadlnjglpigjmaa
