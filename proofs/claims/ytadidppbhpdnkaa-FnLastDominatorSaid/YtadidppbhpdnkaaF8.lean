/- Walks of LastDominator, of the program and of the reference. -/
import Derived.Test.YtadidppbhpdnkaaF7

import Derived.Test.YtadidppbhpdnkaaW2

namespace Go.Proofs.Ytadidppbhpdnkaa

open Go.RowKit

set_option maxRecDepth 100000 in
set_option maxHeartbeats 1000000 in
theorem implDomsCap_any (p : Pr) (b : Int) (at' ab : Option Addr) (ct cb : Nat) (w : World) (hT : InAt w Any p.types at') (hB : SlAt w Any p.body ab) (hs : p.types.length ≤ 1048576) (hc : p.body.length ≤ 1048576) :
    Calls Try.prog 22 #[.agg #[.slice at' p.types.length ct, .slice ab p.body.length cb], .int .i64 b] w fun e w' => HandI (domsOf p b) w e w' ∧ CapOk e := by
  have hg1 : ∀ o o', Gr w ((w.alloc o).alloc o') none := fun o o' => ((Gr.refl _ _).alloc _).alloc _
  go_enter Try.func22, Try.ntmps22
  go_wp2_with fail
  refine (graphOf_any p [b] at' ab _ ct cb _ _ (hT.gr0 (hg1 _ _)) (hB.gr0 (hg1 _ _)) (inAt_one _ _ _) hs hc (by simp)).mono ?_
  rintro e w1 ⟨hg, hif⟩
  have hG1 : Gr w w1 none := (hg1 _ _).trans0 hg
  clear hg
  rw [graphOk_one] at hif
  cases h2 : hasTwo p b b with
  | false =>
    rw [h2, if_neg (by simp)] at hif
    subst hif
    have HO := Lib.hid (domsOf_out h2)
    clear h2
    go_wp2_with fail
    go_ret
    rw [HO.out]
    exact ⟨HandI.nil _ _ hG1, CapOk.of (Nat.le_refl _)⟩
  | true =>
    rw [h2, if_pos rfl] at hif
    obtain ⟨gb, rfl, hgb, hGA⟩ := hif
    obtain ⟨j, k, rfl, hjk, hj, hk, hv, hpp⟩ := hasTwo_in h2
    have hjk' : j = k := by omega
    subst hjk'
    have hml := ptsOf_le p
    have HO := Lib.hid (show domsOf p j = coll (fun a => domL (pts p) a j) (pts p).length by rw [domsOf_in h2, hpp])
    rw [hpp] at hml hj hk
    clear h2 hv hpp hjk
    have HG := Lib.hid hGA
    obtain ⟨L, a3, n3, a4, n4, al, cl, hL, d0, d1, d2, hr1, hr2, hr3⟩ := hGA
    subst hL
    clear d0 d1 hr1 hr2 hr3
    have hC0 : Coll w1 w.heap.size w1.heap.size (fun a => domL (pts p) a j) 0 none 0 0 := Coll.nil _ hG1.size _
    go_wp2_with fail
    go_loopw [7, 23] (fun v i wr => ∃ (k n cap : Nat) (ao : Option Addr), k ≤ (pts p).length ∧ i = .int .i64 k ∧ v = .slice ao n cap ∧ Coll wr w.heap.size w1.heap.size (fun a => domL (pts p) a j) k ao n cap ∧ Gr w1 wr none) (fun _ i _ => (pts p).length - (intOf i).toNat)
    case atStart => exact ⟨0, 0, 0, _, Nat.zero_le _, rfl, rfl, hC0, Gr.refl _ _⟩
    case round =>
      obtain ⟨k, n, cap, ao, hkl, rfl, rfl, hC, hgr⟩ := hrel
      have hnk := hC.le
      have HC := Lib.hid hC
      clear hC hC0 d2
      by_cases hlt : k < (pts p).length
      · cases hd : domL (pts p) k j with
        | true =>
          have HD := Lib.hid hd
          clear hd
          go_wp2_with fail
          refine (dominates_any p gb k j _ (HG.out.gr hgr) (by omega) hk).mono ?_
          rw [HD.out]
          rintro e w3 ⟨rfl, hg3⟩
          go_wp2_with (at_builtin; refine app_c w3 _ rfl (.tmp 30) (.tmp 32) rfl w.heap.size w1.heap.size ao cap n _ k rfl (HC.out.gr hg3) ((Gr.refl _ _).alloc _) HD.out w3.heap.size 1 rfl (cell_of_row _ _ _ _ _ _ (heap1_0 _ _)) (by omega) (hgr.trans0 hg3).size ?_; rintro g cap' w4 hC4 hg4)
          go_roundw
          case rel => exact ⟨k + 1, n + 1, cap', _, by omega, by go_num, rfl, hC4, hg4 _ ((hgr.trans0 hg3).alloc _) (Nat.le_refl _)⟩
          case measure => simp [intOf]; omega
        | false =>
          have HD := Lib.hid hd
          clear hd
          go_wp2_with fail
          refine (dominates_any p gb k j _ (HG.out.gr hgr) (by omega) hk).mono ?_
          rw [HD.out]
          rintro e w3 ⟨rfl, hg3⟩
          go_wp2_with fail
          go_roundw
          case rel => exact ⟨k + 1, n, cap, ao, by omega, by go_num, rfl, (HC.out.gr hg3).no HD.out, hgr.trans0 hg3⟩
          case measure => simp [intOf]; omega
      · obtain rfl : k = (pts p).length := by omega
        go_wp2_with fail
        go_ret
        exact ⟨HC.out.hand HO.out (hG1.trans0 hgr), CapOk.of (Lst.cap HC.out)⟩

set_option maxHeartbeats 400000 in
theorem ld2_any (p : Pr) (gb gp ap j k : Nat) (w : World) (hG : GraphAt w p gb) (hl : (pts p).length ≤ 100) (hk : k < (pts p).length) (hg : w.cell? ⟨gp, 0, none⟩ = some (.pointer (some ⟨gb, 0, none⟩))) (ha : w.cell? ⟨ap, 0, none⟩ = some (.int .i64 (k : Int))) :
    Calls Try.prog 66 #[.int .i64 (j : Int), .pointer (some ⟨gp, 0, none⟩), .pointer (some ⟨ap, 0, none⟩)] w fun e w' => e = .returned (.bool (!domL (pts p) j k)) ∧ Gr w w' none := by
  go_enter Try.func66, Try.ntmps66
  go_wp2_with fail
  refine (dominates_any p gb j k _ hG hl hk).mono ?_
  rintro e w1 ⟨rfl, hg1⟩
  go_wp2_with fail
  go_ret
  exact ⟨rfl, hg1⟩
/-- All are points. -/
def AllPts (L : List Pt) (l : List Int) : Prop := ∀ x ∈ l, ∃ k : Nat, x = k ∧ k < L.length
def FoundU (L : List Pt) (x : Int) (l : List Int) (w : World) (e : Ending) (w' : World) : Prop := ∃ r : Int, e = .returned (.int .i64 r) ∧ decide (0 ≤ r) = l.any (undom L x) ∧ Gr w w' none
set_option maxHeartbeats 1000000 in
theorem idx2_any (p : Pr) (gb gp ap k : Nat) (l : List Int) (a : Option Addr) (c : Nat) (w : World) (h : InAt w Any l a) (hl : l.length ≤ 1048576) (hA : AllPts (pts p) l) (hG : GraphAt w p gb) (hpl : (pts p).length ≤ 100) (hk : k < (pts p).length) (hg : w.cell? ⟨gp, 0, none⟩ = some (.pointer (some ⟨gb, 0, none⟩))) (ha : w.cell? ⟨ap, 0, none⟩ = some (.int .i64 (k : Int))) :
    Calls Try.prog 82 #[.slice a l.length c, .func (.func 66) #[] #[.pointer (some ⟨gp, 0, none⟩), .pointer (some ⟨ap, 0, none⟩)]] w (FoundU (pts p) k l w) := by
  have HG := Lib.hid hG
  have HA := Lib.hid hA
  have HI := Lib.hid h
  clear hG hA h
  go_enter Try.func82, Try.ntmps82
  go_wp2
  go_loopw [8] (fun i wr => ∃ m : Nat, m ≤ l.length ∧ i = .int .i64 m ∧ (∀ j (hj : j < l.length), j < m → undom (pts p) k l[j] = false) ∧ Gr w wr none) (fun i _ => l.length - (intOf i).toNat)
  case atStart => exact ⟨0, Nat.zero_le _, rfl, fun j _ h => absurd h (by omega), Gr.refl _ _⟩
  case round =>
    obtain ⟨m, hm, rfl, hall, hgr⟩ := hrel
    have HN := Lib.hid hall
    clear hall
    by_cases hlt : m < l.length
    · obtain ⟨b1, off, rfl, _, hc⟩ := (HI.out.gr0 hgr).at hlt
      obtain ⟨j, hj, hjl⟩ := HA.out l[m] (List.getElem_mem hlt)
      have HJ := Lib.hid hj
      rw [hj] at hc
      have hg2 := hgr.cell hg (by simp)
      have ha2 := hgr.cell ha (by simp)
      clear hj
      have HU := Lib.hid (show undom (pts p) k l[m] = !domL (pts p) j k by rw [HJ.out]; unfold undom; simp)
      obtain ⟨f, hf⟩ : ∃ f, (!domL (pts p) j k) = f := ⟨_, rfl⟩
      have HF := Lib.hid hf
      clear hf
      go_wp2_with fail
      refine (ld2_any p gb gp ap j k _ (HG.out.gr hgr) hpl hk hg2 ha2).mono ?_
      rw [HF.out]
      rintro e w3 ⟨rfl, hg3⟩
      cases f with
      | true =>
        go_wp2_with fail
        go_ret
        refine ⟨m, rfl, ?_, hgr.trans0 hg3⟩
        have : l.any (undom (pts p) k) = true := List.any_eq_true.2 ⟨l[m], List.getElem_mem hlt, by rw [HU.out, HF.out]⟩
        rw [this]; simp
      | false =>
        go_wp2_with fail
        go_roundw
        case rel => exact ⟨m + 1, by omega, by go_num, fun t ht htm => by
          by_cases e : t = m
          · subst e; rw [HU.out, HF.out]
          · exact HN.out t ht (by omega), hgr.trans0 hg3⟩
        case measure => simp [intOf]; omega
    · have HO := Lib.hid (show l.any (undom (pts p) k) = false from List.any_eq_false.2 fun x hx => by
        obtain ⟨t, ht, rfl⟩ := List.getElem_of_mem hx
        rw [HN.out t ht (by omega)]; simp)
      go_wp2_with fail
      go_ret
      exact ⟨-1, rfl, by rw [HO.out]; rfl, hgr⟩
theorem has2_any (p : Pr) (gb gp ap k : Nat) (l : List Int) (a : Option Addr) (c : Nat) (w : World) (h : InAt w Any l a) (hl : l.length ≤ 1048576) (hA : AllPts (pts p) l) (hG : GraphAt w p gb) (hpl : (pts p).length ≤ 100) (hk : k < (pts p).length) (hg : w.cell? ⟨gp, 0, none⟩ = some (.pointer (some ⟨gb, 0, none⟩))) (ha : w.cell? ⟨ap, 0, none⟩ = some (.int .i64 (k : Int))) :
    Calls Try.prog 65 #[.slice a l.length c, .func (.func 66) #[] #[.pointer (some ⟨gp, 0, none⟩), .pointer (some ⟨ap, 0, none⟩)]] w fun e w' => e = .returned (.bool (l.any (undom (pts p) k))) ∧ Gr w w' none := by
  go_enter Try.func65, Try.ntmps65
  go_wp2_with fail
  refine (idx2_any p gb gp ap k l a c _ h hl hA hG hpl hk hg ha).mono ?_
  rintro e w1 ⟨r, rfl, hr, hg1⟩
  go_wp2_with fail
  go_ret
  exact ⟨by rw [← hr]; rfl, hg1⟩
/-- A number and whether there is one are handed back. -/
def NumOk (x : Int × Bool) (w : World) (e : Ending) (w' : World) : Prop := e = .returned (.tuple #[.int .i64 x.1, .bool x.2]) ∧ Gr w w' none
set_option maxRecDepth 100000 in
set_option maxHeartbeats 2000000 in
theorem implLastDominator_any (p : Pr) (b : Int) (at' ab : Option Addr) (ct cb : Nat) (w : World) (hT : InAt w Any p.types at') (hB : SlAt w Any p.body ab) (hs : p.types.length ≤ 1048576) (hc : p.body.length ≤ 1048576) :
    Calls Try.prog 32 #[.agg #[.slice at' p.types.length ct, .slice ab p.body.length cb], .int .i64 b] w (NumOk (lastDom p b) w) := by
  have hg3 : ∀ o o' o'', Gr w (((w.alloc o).alloc o').alloc o'') none := fun o o' o'' => (((Gr.refl _ _).alloc _).alloc _).alloc _
  go_enter Try.func32, Try.ntmps32
  go_wp2_with fail
  have c0 := cell_of_row _ _ 0 _ _ _ (heap3_0 w (.cells #[.slice at' p.types.length ct, .slice ab p.body.length cb] 26) (.cells #[.int .i64 b] 3) (.cells #[.int .i64 b] 3))
  have c1 := cell_of_row _ _ 1 _ _ _ (heap3_0 w (.cells #[.slice at' p.types.length ct, .slice ab p.body.length cb] 26) (.cells #[.int .i64 b] 3) (.cells #[.int .i64 b] 3))
  have cb0 := cell_of_row _ _ 0 _ _ _ (heap3_1 w (.cells #[.slice at' p.types.length ct, .slice ab p.body.length cb] 26) (.cells #[.int .i64 b] 3) (.cells #[.int .i64 b] 3))
  have cl0 := cell_of_row _ _ 0 _ _ _ (heap3_2 w (.cells #[.slice at' p.types.length ct, .slice ab p.body.length cb] 26) (.cells #[.int .i64 b] 3) (.cells #[.int .i64 b] 3))
  refine (graphOf_any p [b] at' ab _ ct cb _ _ (hT.gr0 (hg3 _ _ _)) (hB.gr0 (hg3 _ _ _)) (InAt.of fun j hj => ⟨trivial, by
    have : j = 0 := by simp at hj; omega
    subst this
    exact cl0.trans rfl⟩) hs hc (by simp)).mono ?_
  rintro e w1 ⟨hg, hif⟩
  have hG1 : Gr w w1 none := (hg3 _ _ _).trans0 hg
  replace c0 := hg.cell c0 (by simp)
  replace c1 := hg.cell c1 (by simp)
  replace cb0 := hg.cell cb0 (by simp)
  replace c0 : w1.cell? ⟨w.heap.size, 0, none⟩ = some (.slice at' p.types.length ct) := c0
  replace c1 : w1.cell? ⟨w.heap.size, 1, none⟩ = some (.slice ab p.body.length cb) := c1
  replace cb0 : w1.cell? ⟨w.heap.size + 1, 0, none⟩ = some (.int .i64 b) := cb0
  rw [graphOk_one] at hif
  clear hg cl0
  cases h2 : hasTwo p b b with
  | false =>
    rw [h2, if_neg (by simp)] at hif
    subst hif
    have HO := Lib.hid (show lastDom p b = (0, false) by unfold lastDom lastIn; rw [domsOf_out h2]; rfl)
    clear h2
    go_wp2_with fail
    go_ret2
    exact ⟨by rw [HO.out]; rfl, hG1.alloc _⟩
  | true =>
    rw [h2, if_pos rfl] at hif
    obtain ⟨gb, rfl, hgb, hGA⟩ := hif
    obtain ⟨j, j', rfl, hjj, hj, hk, hv, hpp⟩ := hasTwo_in h2
    have hml := ptsOf_le p
    have HM := Lib.hid (show AllPts (pts p) (domsOf p j) from fun x hx => by obtain ⟨k, e, hk⟩ := domsOf_mem hx; exact ⟨k, e, by rw [← hpp]; exact hk⟩)
    have HPP := Lib.hid hpp
    have HH2 := Lib.hid h2
    rw [hpp] at hml
    have hgA : ∀ o, Gr w1 (w1.alloc o) none := fun o => (Gr.refl _ _).alloc o
    have d0 : ∀ o, (w1.alloc o).cell? ⟨w.heap.size, 0, none⟩ = some (.slice at' p.types.length ct) := fun o => (hgA o).cell c0 (by simp)
    have d1 : ∀ o, (w1.alloc o).cell? ⟨w.heap.size, 1, none⟩ = some (.slice ab p.body.length cb) := fun o => (hgA o).cell c1 (by simp)
    have db : ∀ o, (w1.alloc o).cell? ⟨w.heap.size + 1, 0, none⟩ = some (.int .i64 (j : Int)) := fun o => (hgA o).cell cb0 (by simp)
    have dg : (w1.alloc (.cells #[.pointer (some ⟨gb, 0, none⟩)] 53)).cell? ⟨w1.heap.size, 0, none⟩ = some (.pointer (some ⟨gb, 0, none⟩)) := cell_of_row _ _ 0 _ _ _ (heap1_0 _ _)
    have hbl : w.heap.size + 1 < w1.heap.size := lt_of_cell cb0
    clear h2 hjj hk hv hpp c0 c1 cb0
    go_wp2_with fail
    obtain ⟨wG, hwG⟩ : ∃ wG : World, wG = w1.alloc (.cells #[.pointer (some ⟨gb, 0, none⟩)] 53) := ⟨_, rfl⟩
    have hgG : Gr w1 wG none := by rw [hwG]; exact hgA _
    have e0 : wG.cell? ⟨w.heap.size, 0, none⟩ = some (.slice at' p.types.length ct) := by rw [hwG]; exact d0 _
    have e1 : wG.cell? ⟨w.heap.size, 1, none⟩ = some (.slice ab p.body.length cb) := by rw [hwG]; exact d1 _
    have eb : wG.cell? ⟨w.heap.size + 1, 0, none⟩ = some (.int .i64 (j : Int)) := by rw [hwG]; exact db _
    have eg : wG.cell? ⟨w1.heap.size, 0, none⟩ = some (.pointer (some ⟨gb, 0, none⟩)) := by rw [hwG]; exact dg
    have hszG : wG.heap.size = w1.heap.size + 1 := by rw [hwG]; simp
    rw [← hwG]
    clear hwG d0 d1 db dg hgA
    have hGG := hG1.trans0 hgG
    have HGA := Lib.hid (hGA.gr hgG)
    refine (implDomsCap_any p j at' ab ct cb _ (hT.gr0 hGG) (hB.gr0 hGG) hs hc).mono ?_
    rintro e w2 ⟨⟨a2, c2, rfl, hI, hnb, hfz, hg2⟩, hcap⟩
    have hpos : 0 < (domsOf p j).length := List.length_pos_of_mem (doms_self hj)
    have hlen := domsOf_len p j
    obtain ⟨g2, o2, rfl, -, -⟩ := hI.at hpos
    have hcl := hcap _ _ _ rfl
    have hg2b := hnb g2 rfl
    have hf2 : ∀ x : Addr, x.block = g2 → w2.frozen? x = false := fun x hx => hfz x (by simp [ob, hx])
    replace e0 := hg2.cell e0 (by simp)
    replace e1 := hg2.cell e1 (by simp)
    replace eb := hg2.cell eb (by simp)
    replace eg := hg2.cell eg (by simp)
    have hG2 := hGG.trans0 hg2
    have HG2A := Lib.hid (HGA.out.gr hg2)
    obtain ⟨D, hD⟩ : ∃ D, domsOf p j = D := ⟨_, rfl⟩
    have HL := Lib.hid (show lastDom p j = lastIn (pts p) D j by unfold lastDom; rw [hD, HPP.out])
    rw [hD] at hI hpos hlen hcl HM ⊢
    have HI := Lib.hid hI
    clear hD hI hnb hfz hcap hgG hG1 hGA hGG
    go_wp2_with fail
    refine (del1_any D j (w.heap.size + 1) g2 o2 c2 _ HI.out hlen eb (by omega) hf2 hcl).mono ?_
    rintro e w3 ⟨c3, rfl, hI3, hg3'⟩
    have hol := others_len D j
    have hG3 : Gr w w3 none := hG2.trans hg3' (fun r e => .inr (by cases e; omega))
    have h03 : Gr wG w3 none := hg2.trans hg3' (fun r e => .inr (by cases e; omega))
    have HG3A := Lib.hid (HGA.out.gr h03)
    replace eg := hg3'.cell eg (by simp; omega)
    have HO3 := Lib.hid hI3
    have HAO := Lib.hid (show AllPts (pts p) (others D j) from fun x hx => HM.out x (others_mem hx).1)
    have HAT := Lib.hid (fun (i : Nat) (h : i < (others D j).length) => others_at (L := pts p) (l := D) (b := j) h)
    have HNO := Lib.hid (fun h => others_none (L := pts p) (l := D) (b := j) h)
    obtain ⟨M, hM⟩ : ∃ M, others D j = M := ⟨_, rfl⟩
    rw [hM] at hI3 hol HO3 HAO HAT HNO ⊢
    clear hM hI3 hg3' h03 e0 e1 eb hg2 hG2
    go_wp2_with fail
    go_loopw [27] (fun s wr => ∃ k : Nat, k ≤ M.length ∧ s = .int .i64 k ∧ (∀ t (ht : t < M.length), t < k → (M.any fun c => !domL (pts p) c.toNat M[t].toNat) = true) ∧ Gr w3 wr none) (fun s _ => M.length - (intOf s).toNat)
    case atStart => exact ⟨0, Nat.zero_le _, rfl, fun t _ h => absurd h (by omega), Gr.refl _ _⟩
    case round =>
      obtain ⟨k, hk, rfl, hall, hg⟩ := hrel
      have HALL := Lib.hid hall
      clear hall
      by_cases hlt : k < M.length
      · obtain ⟨b9, o9, e9, -, c9⟩ := (HO3.out.gr0 hg).at hlt
        cases e9
        obtain ⟨x, hx, hxl⟩ := HAO.out M[k] (List.getElem_mem hlt)
        have HX := Lib.hid hx
        rw [hx] at c9
        have hgX : ∀ o, Gr wr (wr.alloc o) none := fun o => (Gr.refl _ _).alloc o
        have egX : ∀ o, (wr.alloc o).cell? ⟨w1.heap.size, 0, none⟩ = some (.pointer (some ⟨gb, 0, none⟩)) := fun o => (hg.trans0 (hgX o)).cell eg (by simp)
        have eaX : (wr.alloc (.cells #[.int .i64 (x : Int)] 3)).cell? ⟨wr.heap.size, 0, none⟩ = some (.int .i64 (x : Int)) := cell_of_row _ _ 0 _ _ _ (heap1_0 _ _)
        have HU := Lib.hid (show (M.any fun c => !domL (pts p) c.toNat M[k].toNat) = M.any (undom (pts p) x) by rw [hx]; rfl)
        obtain ⟨f, hf⟩ : ∃ f, M.any (undom (pts p) x) = f := ⟨_, rfl⟩
        have HF := Lib.hid hf
        have HG := Lib.hid hg
        clear hx hf hg
        go_wp2_with fail
        refine (has2_any p gb w1.heap.size wr.heap.size x M _ c3 _ (HO3.out.gr0 (HG.out.trans0 (hgX _))) (by omega) HAO.out (HG3A.out.gr (HG.out.trans0 (hgX _))) (by omega) hxl (egX _) eaX).mono ?_
        rw [HF.out]
        rintro e w5 ⟨rfl, hg5⟩
        have ea5 := hg5.cell eaX (by simp)
        cases f with
        | true =>
          go_wp2_with fail
          go_roundw
          case rel => exact ⟨k + 1, by omega, by go_num, fun t ht htk => by
            by_cases e : t = k
            · subst e; rw [HU.out, HF.out]
            · exact HALL.out t ht (by omega), (HG.out.trans0 (hgX _)).trans0 hg5⟩
          case measure => simp [intOf]; omega
        | false =>
          have HR := Lib.hid (HAT.out k hlt HALL.out (by rw [HU.out, HF.out]))
          go_wp2_with fail
          go_ret2
          exact ⟨by rw [HL.out, HR.out, HX.out]; rfl, hG3.trans0 ((HG.out.trans0 (hgX _)).trans0 hg5)⟩
      · have HR := Lib.hid (HNO.out fun t ht => HALL.out t ht (by omega))
        go_wp2_with fail
        go_ret2
        exact ⟨by rw [HL.out, HR.out]; rfl, hG3.trans0 hg⟩
end Go.Proofs.Ytadidppbhpdnkaa
