/- PathsFrom and PathsTo, of the program and of the reference: both hand back the same lists. -/
/- LoopOf, of the program and of the reference: both hand back the same list. -/
import Derived.Test.YtpnaeijkllmihaaN3

import Derived.Test.YtpnaeijkllmihaaN1

namespace Go.Proofs.Ytpnaeijkllmihaa

open Go.RowKit

theorem one_cases (p : Pr) (a : Int) : (∃ k : Nat, a = k ∧ k < (ptsOf p).length ∧ ptsOf p = pts p ∧ hasTwo p a a = true) ∨ ((a < 0 ∨ (ptsOf p).length ≤ a) ∧ hasTwo p a a = false) := by
  cases h : hasTwo p a a with
  | true =>
    obtain ⟨j, k, e1, e2, hj, hk, hv, hpp⟩ := hasTwo_in h
    exact .inl ⟨j, e1, hj, hpp, rfl⟩
  | false =>
    refine .inr ⟨?_, rfl⟩
    unfold hasTwo at h
    by_cases h1 : a < 0
    · exact .inl h1
    · refine .inr ?_
      by_cases h2 : a < (ptsOf p).length
      · simp at h; omega
      · omega
theorem pts_ok {p : Pr} (h : ptsOf p = pts p) : NextOk (ptsOf p) := by rw [h]; exact pts_next p
/-- Does the point j lead to the point k? -/
noncomputable def leads (L : List Pt) (j k : Nat) : Bool := reach L (nextOf L j) (-1) k
theorem Marked.leads {L : List Pt} {j : Nat} {w' : World} {gf : Nat} {f : List Bool} (hF : Flags w' gf f) (hl : f.length = L.length) (h : ∀ k : Nat, f[k]? = some true ↔ Rch L (nextOf L j) (-1) k) {k : Nat} (hk : k < L.length) :
    w'.cell? ⟨gf, k, none⟩ = some (.bool (leads L j k)) := Marked.cell hF hl h hk

/-- What PathsFrom says. -/
noncomputable def pathsFrom (p : Pr) (a : Int) : List Int := if hasTwo p a a = true then coll (fun k => leads (ptsOf p) a.toNat k) (ptsOf p).length else []
theorem pathsFrom_len (p : Pr) (a : Int) : (pathsFrom p a).length ≤ 1048576 := by
  unfold pathsFrom
  split
  · have := coll_le (fun k => leads (ptsOf p) a.toNat k) (ptsOf p).length
    have := ptsOf_le p
    omega
  · simp
theorem pathsFrom_in {p : Pr} {j : Nat} (h : hasTwo p j j = true) : pathsFrom p j = coll (fun k => leads (ptsOf p) j k) (ptsOf p).length := by simp [pathsFrom, h]
theorem pathsFrom_out {p : Pr} {a : Int} (h : hasTwo p a a = false) : pathsFrom p a = [] := by simp [pathsFrom, h]
/-- What PathsTo says. -/
noncomputable def pathsTo (p : Pr) (a : Int) : List Int := if hasTwo p a a = true then coll (fun k => leads (ptsOf p) k a.toNat) (ptsOf p).length else []
theorem pathsTo_len (p : Pr) (a : Int) : (pathsTo p a).length ≤ 1048576 := by
  unfold pathsTo
  split
  · have := coll_le (fun k => leads (ptsOf p) k a.toNat) (ptsOf p).length
    have := ptsOf_le p
    omega
  · simp
theorem pathsTo_in {p : Pr} {j : Nat} (h : hasTwo p j j = true) : pathsTo p j = coll (fun k => leads (ptsOf p) k j) (ptsOf p).length := by simp [pathsTo, h]
theorem pathsTo_out {p : Pr} {a : Int} (h : hasTwo p a a = false) : pathsTo p a = [] := by simp [pathsTo, h]

set_option maxRecDepth 100000 in
set_option maxHeartbeats 1000000 in
theorem specPathsFrom_any (p : Pr) (a : Int) (at' ab : Option Addr) (ct cb : Nat) (w : World) (hT : InAt w Any p.types at') (hB : SlAt w Any p.body ab) (hs : p.types.length ≤ 1048576) (hc : St.count p.body ≤ 1048576) :
    Calls Try.prog 34 #[.agg #[.slice at' p.types.length ct, .slice ab p.body.length cb], .int .i64 a] w (HandI (pathsFrom p a) w) := by
  have hlc := count_length p.body
  have hg1 : ∀ o o', Gr w ((w.alloc o).alloc o') none := fun o o' => ((Gr.refl _ _).alloc _).alloc _
  have hml := ptsOf_le p
  go_enter Try.func34, Try.ntmps34
  go_wp2_with fail
  refine (specPointsOf_any p at' ab ct cb _ (hT.gr0 (hg1 _ _)) (hB.gr0 (hg1 _ _)) hs hc).mono ?_
  rintro e w1 ⟨M, am, c, hM, rfl, hown, hg⟩
  subst hM
  have hG1 : Gr w w1 none := (hg1 _ _).trans0 hg
  have hE : w1.heap[w.heap.size + 1]? = some (.cells #[] 3 (0, 0)) := (hg.block _ (by simp) (by simp)).trans (heap2_1 _ _ _)
  have HE := Lib.hid hE
  have HR := Lib.hid hown.read
  clear hg hE hown
  rcases one_cases p a with ⟨j, rfl, hj, hpp, h2⟩ | ⟨hout, h2⟩
  · have HO := Lib.hid (pathsFrom_in h2)
    have HN := Lib.hid (pts_ok hpp)
    clear h2 hpp
    go_wp2_with fail
    refine (l2From_any (ptsOf p) am c j _ HR.out HN.out (by omega) hj).mono ?_
    rintro e w2 ⟨gf, f, rfl, hF, hfl, hr, hg2, hgf⟩
    have hG2 : Gr w w2 none := hG1.trans0 hg2
    have hC0 : Coll w2 w.heap.size w2.heap.size (fun k => leads (ptsOf p) j k) 0 (some ⟨w.heap.size + 1, 0, none⟩) 0 0 := (Coll.empty hG2.size _ (by omega) HE.out).gr hg2
    have hcell : ∀ k, k < (ptsOf p).length → w2.cell? ⟨gf, k, none⟩ = some (.bool (leads (ptsOf p) j k)) := fun k hk => Marked.leads hF hfl hr hk
    have HC := Lib.hid hcell
    clear hF hfl hr hg2 hcell
    go_wp2_with fail
    go_loopw [5, 8] (fun v i wr => ∃ (k n cap : Nat) (ao : Option Addr), k ≤ (ptsOf p).length ∧ i = .int .i64 k ∧ v = .slice ao n cap ∧ Coll wr w.heap.size w2.heap.size (fun k => leads (ptsOf p) j k) k ao n cap ∧ Gr w2 wr none) (fun _ i _ => (ptsOf p).length - (intOf i).toNat)
    case atStart => exact ⟨0, 0, 0, _, Nat.zero_le _, rfl, rfl, hC0, Gr.refl _ _⟩
    case round =>
      obtain ⟨k, n, cap, ao, hkl, rfl, rfl, hCo, hgr⟩ := hrel
      have hnk := hCo.le
      have HCo := Lib.hid hCo
      clear hCo hC0
      by_cases hlt : k < (ptsOf p).length
      · have hck := hgr.cell (HC.out k hlt) (by simp)
        cases hd : leads (ptsOf p) j k with
        | true =>
          have HD := Lib.hid hd
          rw [hd] at hck
          clear hd
          go_wp2_with (at_builtin; refine app_c wr _ rfl (.tmp 34) (.tmp 36) rfl w.heap.size w2.heap.size ao cap n _ k rfl HCo.out ((Gr.refl _ _).alloc _) HD.out wr.heap.size 1 rfl (cell_of_row _ _ _ _ _ _ (heap1_0 _ _)) (by omega) hgr.size ?_; rintro g cap' w4 hC4 hg4)
          go_roundw
          case rel => exact ⟨k + 1, n + 1, cap', _, by omega, by go_num, rfl, hC4, hg4 _ (hgr.alloc _) (Nat.le_refl _)⟩
          case measure => simp [intOf]; omega
        | false =>
          have HD := Lib.hid hd
          rw [hd] at hck
          clear hd
          go_wp2_with fail
          go_roundw
          case rel => exact ⟨k + 1, n, cap, ao, by omega, by go_num, rfl, HCo.out.no HD.out, hgr⟩
          case measure => simp [intOf]; omega
      · obtain rfl : k = (ptsOf p).length := by omega
        go_wp2_with fail
        go_ret
        exact HCo.out.hand HO.out (hG2.trans0 hgr)
  · have HO := Lib.hid (pathsFrom_out h2)
    clear h2
    rcases hout with hout | hout
    all_goals
      go_wp2_with fail
      all_goals
        go_ret
        rw [HO.out]
        exact HandI.own (l := []) rfl (own_empty (by omega) HE.out) hG1
set_option maxRecDepth 100000 in
set_option maxHeartbeats 1000000 in
theorem specPathsTo_any (p : Pr) (a : Int) (at' ab : Option Addr) (ct cb : Nat) (w : World) (hT : InAt w Any p.types at') (hB : SlAt w Any p.body ab) (hs : p.types.length ≤ 1048576) (hc : St.count p.body ≤ 1048576) :
    Calls Try.prog 49 #[.agg #[.slice at' p.types.length ct, .slice ab p.body.length cb], .int .i64 a] w (HandI (pathsTo p a) w) := by
  have hlc := count_length p.body
  have hg1 : ∀ o o', Gr w ((w.alloc o).alloc o') none := fun o o' => ((Gr.refl _ _).alloc _).alloc _
  have hml := ptsOf_le p
  go_enter Try.func49, Try.ntmps49
  go_wp2_with fail
  refine (specPointsOf_any p at' ab ct cb _ (hT.gr0 (hg1 _ _)) (hB.gr0 (hg1 _ _)) hs hc).mono ?_
  rintro e w1 ⟨M, am, c, hM, rfl, hown, hg⟩
  subst hM
  have hG1 : Gr w w1 none := (hg1 _ _).trans0 hg
  have hE : w1.heap[w.heap.size + 1]? = some (.cells #[] 3 (0, 0)) := (hg.block _ (by simp) (by simp)).trans (heap2_1 _ _ _)
  have HE := Lib.hid hE
  have HR := Lib.hid hown.read
  clear hg hE hown
  rcases one_cases p a with ⟨j, rfl, hj, hpp, h2⟩ | ⟨hout, h2⟩
  · have HO := Lib.hid (pathsTo_in h2)
    have HN := Lib.hid (pts_ok hpp)
    have hC0 : Coll w1 w.heap.size w1.heap.size (fun k => leads (ptsOf p) k j) 0 (some ⟨w.heap.size + 1, 0, none⟩) 0 0 := Coll.empty hG1.size _ (by omega) HE.out
    clear h2 hpp
    go_wp2_with fail
    go_loopw [5, 7] (fun v i wr => ∃ (k n cap : Nat) (ao : Option Addr), k ≤ (ptsOf p).length ∧ i = .int .i64 k ∧ v = .slice ao n cap ∧ Coll wr w.heap.size w1.heap.size (fun k => leads (ptsOf p) k j) k ao n cap ∧ Gr w1 wr none) (fun _ i _ => (ptsOf p).length - (intOf i).toNat)
    case atStart => exact ⟨0, 0, 0, _, Nat.zero_le _, rfl, rfl, hC0, Gr.refl _ _⟩
    case round =>
      obtain ⟨k, n, cap, ao, hkl, rfl, rfl, hCo, hgr⟩ := hrel
      have hnk := hCo.le
      have HCo := Lib.hid hCo
      clear hCo hC0
      by_cases hlt : k < (ptsOf p).length
      · go_wp2_with fail
        refine (l2From_any (ptsOf p) am c k _ (HR.out.gr hgr) HN.out (by omega) hlt).mono ?_
        rintro e w2 ⟨gf, f, rfl, hF, hfl, hr, hg2, hgf⟩
        have hck := Marked.leads hF hfl hr hj
        have hgr2 : Gr w1 w2 none := hgr.trans0 hg2
        have HCo2 := Lib.hid (HCo.out.gr hg2)
        clear hF hfl hr hg2
        cases hd : leads (ptsOf p) k j with
        | true =>
          have HD := Lib.hid hd
          rw [hd] at hck
          clear hd
          go_wp2_with (at_builtin; refine app_c w2 _ rfl (.tmp 33) (.tmp 35) rfl w.heap.size w1.heap.size ao cap n _ k rfl HCo2.out ((Gr.refl _ _).alloc _) HD.out w2.heap.size 1 rfl (cell_of_row _ _ _ _ _ _ (heap1_0 _ _)) (by omega) hgr2.size ?_; rintro g cap' w4 hC4 hg4)
          go_roundw
          case rel => exact ⟨k + 1, n + 1, cap', _, by omega, by go_num, rfl, hC4, hg4 _ (hgr2.alloc _) (Nat.le_refl _)⟩
          case measure => simp [intOf]; omega
        | false =>
          have HD := Lib.hid hd
          rw [hd] at hck
          clear hd
          go_wp2_with fail
          go_roundw
          case rel => exact ⟨k + 1, n, cap, ao, by omega, by go_num, rfl, HCo2.out.no HD.out, hgr2⟩
          case measure => simp [intOf]; omega
      · obtain rfl : k = (ptsOf p).length := by omega
        go_wp2_with fail
        go_ret
        exact HCo.out.hand HO.out (hG1.trans0 hgr)
  · have HO := Lib.hid (pathsTo_out h2)
    clear h2
    have hC0 : HandI [] w (.returned (.slice (some ⟨w.heap.size + 1, 0, none⟩) 0 0)) w1 := HandI.own (l := []) rfl (own_empty (by omega) HE.out) hG1
    have HC0 := Lib.hid hC0
    clear hC0
    rcases hout with hout | hout
    all_goals
      go_wp2_with fail
      go_loop [5, 7] (fun v i => v = .slice (some ⟨w.heap.size + 1, 0, none⟩) 0 0 ∧ i = .int .i64 0) (fun _ _ => 0)
      case atStart => exact ⟨rfl, rfl⟩
      case round =>
        obtain ⟨rfl, rfl⟩ := hrel
        go_wp2_with fail
        all_goals
          go_ret
          rw [HO.out]
          exact HC0.out

set_option maxRecDepth 100000 in
set_option maxHeartbeats 1000000 in
/-- The places at which a list of marks is true. -/
theorem indices_any (gf : Nat) (n c : Nat) (F : Nat → Bool) (w : World) (hF : ∀ k, k < n → w.cell? ⟨gf, k, none⟩ = some (.bool (F k))) (hn : n ≤ 1000) :
    Calls Try.prog 75 #[.slice (some ⟨gf, 0, none⟩) n c] w (HandI (coll F n) w) := by
  have HF := Lib.hid hF
  clear hF
  have hC0 : Coll w w.heap.size w.heap.size F 0 none 0 0 := Coll.nil _ (Nat.le_refl _) _
  go_enter Try.func75, Try.ntmps75
  go_wp2_with fail
  go_loopw [3, 8] (fun v i wr => ∃ (k m cap : Nat) (ao : Option Addr), k ≤ n ∧ i = .int .i64 k ∧ v = .slice ao m cap ∧ Coll wr w.heap.size w.heap.size F k ao m cap ∧ Gr w wr none) (fun _ i _ => n - (intOf i).toNat)
  case atStart => exact ⟨0, 0, 0, _, Nat.zero_le _, rfl, rfl, hC0, Gr.refl _ _⟩
  case round =>
    obtain ⟨k, m, cap, ao, hkl, rfl, rfl, hCo, hgr⟩ := hrel
    have hnk := hCo.le
    have HCo := Lib.hid hCo
    clear hCo hC0
    by_cases hlt : k < n
    · have hck := hgr.cell (HF.out k hlt) (by simp)
      cases hd : F k with
      | true =>
        have HD := Lib.hid hd
        rw [hd] at hck
        clear hd
        go_wp2_with (at_builtin; refine app_c wr _ rfl (.tmp 14) (.tmp 16) rfl w.heap.size w.heap.size ao cap m _ k rfl HCo.out ((Gr.refl _ _).alloc _) HD.out wr.heap.size 1 rfl (cell_of_row _ _ _ _ _ _ (heap1_0 _ _)) (by omega) hgr.size ?_; rintro g cap' w4 hC4 hg4)
        go_roundw
        case rel => exact ⟨k + 1, m + 1, cap', _, by omega, by go_num, rfl, hC4, hg4 _ (hgr.alloc _) (Nat.le_refl _)⟩
        case measure => simp [intOf]; omega
      | false =>
        have HD := Lib.hid hd
        rw [hd] at hck
        clear hd
        go_wp2_with fail
        go_roundw
        case rel => exact ⟨k + 1, m, cap, ao, by omega, by go_num, rfl, HCo.out.no HD.out, hgr⟩
        case measure => simp [intOf]; omega
    · obtain rfl : k = n := by omega
      go_wp2_with fail
      go_ret
      exact HCo.out.hand rfl hgr
theorem HandI.after {l : List Int} {w0 w w' : World} {e : Ending} (h : HandI l w e w') (hg : Gr w0 w none) : HandI l w0 e w' := by
  obtain ⟨a, c, he, h1, h2, h3, h4⟩ := h
  exact ⟨a, c, he, h1, fun g hgo => ⟨Nat.le_trans hg.size (h2 g hgo).1, (h2 g hgo).2⟩, h3, hg.trans0 h4⟩
set_option maxRecDepth 100000 in
set_option maxHeartbeats 1000000 in
theorem implPathsFrom_any (p : Pr) (a : Int) (at' ab : Option Addr) (ct cb : Nat) (w : World) (hT : InAt w Any p.types at') (hB : SlAt w Any p.body ab) (hs : p.types.length ≤ 1048576) (hc : p.body.length ≤ 1048576) :
    Calls Try.prog 33 #[.agg #[.slice at' p.types.length ct, .slice ab p.body.length cb], .int .i64 a] w (HandI (pathsFrom p a) w) := by
  have hg1 : ∀ o o', Gr w ((w.alloc o).alloc o') none := fun o o' => ((Gr.refl _ _).alloc _).alloc _
  have hml := ptsOf_le p
  go_enter Try.func33, Try.ntmps33
  go_wp2_with fail
  refine (graphOf_any p [a] at' ab _ ct cb _ _ (hT.gr0 (hg1 _ _)) (hB.gr0 (hg1 _ _)) (inAt_one _ _ _) hs hc (by simp)).mono ?_
  rintro e w1 ⟨hg, hif⟩
  have hG1 : Gr w w1 none := (hg1 _ _).trans0 hg
  clear hg
  rw [graphOk_one] at hif
  rcases one_cases p a with ⟨j, rfl, hj, hpp, h2⟩ | ⟨_, h2⟩
  · rw [h2, if_pos rfl] at hif
    obtain ⟨gb, rfl, hgb, hGA⟩ := hif
    have HO := Lib.hid (show coll (fun k => leads (pts p) j k) (pts p).length = pathsFrom p j by rw [pathsFrom_in h2, hpp])
    rw [hpp] at hj hml
    clear h2 hpp
    go_wp2_with fail
    refine (from_any p gb j _ hGA (by omega) hj).mono ?_
    rintro e w2 ⟨gf, f, rfl, hF, hfl, hr, hg2, hgf⟩
    go_wp2_with fail
    refine (indices_any gf (pts p).length _ (fun k => leads (pts p) j k) _ (fun k hk => Marked.leads hF hfl hr hk) (by omega)).mono ?_
    rw [HO.out]
    intro e w3 hh
    have hhh := hh.after (hG1.trans0 hg2)
    clear hF hr hfl
    obtain ⟨a3, c3, rfl, -⟩ := hh
    have HH := Lib.hid hhh
    clear hhh
    go_wp2_with fail
    go_ret
    exact HH.out
  · rw [h2, if_neg (by simp)] at hif
    subst hif
    have HO := Lib.hid (pathsFrom_out h2)
    clear h2
    go_wp2_with fail
    go_ret
    rw [HO.out]
    exact HandI.nil _ _ hG1
set_option maxRecDepth 100000 in
set_option maxHeartbeats 1000000 in
theorem implPathsTo_any (p : Pr) (a : Int) (at' ab : Option Addr) (ct cb : Nat) (w : World) (hT : InAt w Any p.types at') (hB : SlAt w Any p.body ab) (hs : p.types.length ≤ 1048576) (hc : p.body.length ≤ 1048576) :
    Calls Try.prog 47 #[.agg #[.slice at' p.types.length ct, .slice ab p.body.length cb], .int .i64 a] w (HandI (pathsTo p a) w) := by
  have hg1 : ∀ o o', Gr w ((w.alloc o).alloc o') none := fun o o' => ((Gr.refl _ _).alloc _).alloc _
  have hml := ptsOf_le p
  go_enter Try.func47, Try.ntmps47
  go_wp2_with fail
  refine (graphOf_any p [a] at' ab _ ct cb _ _ (hT.gr0 (hg1 _ _)) (hB.gr0 (hg1 _ _)) (inAt_one _ _ _) hs hc (by simp)).mono ?_
  rintro e w1 ⟨hg, hif⟩
  have hG1 : Gr w w1 none := (hg1 _ _).trans0 hg
  clear hg
  rw [graphOk_one] at hif
  rcases one_cases p a with ⟨j, rfl, hj, hpp, h2⟩ | ⟨_, h2⟩
  · rw [h2, if_pos rfl] at hif
    obtain ⟨gb, rfl, hgb, hGA⟩ := hif
    have HO := Lib.hid (show pathsTo p j = coll (fun k => leads (pts p) k j) (pts p).length by rw [pathsTo_in h2, hpp])
    rw [hpp] at hj hml
    clear h2 hpp
    have HG := Lib.hid hGA
    obtain ⟨L, a3, n3, a4, n4, al, cl, hL, d0, d1, d2, hr1, hr2, hr3⟩ := hGA
    subst hL
    clear d0 d1 hr1 hr2 hr3
    have hC0 : Coll w1 w.heap.size w1.heap.size (fun k => leads (pts p) k j) 0 none 0 0 := Coll.nil _ hG1.size _
    go_wp2_with fail
    go_loopw [7, 23] (fun v i wr => ∃ (k n cap : Nat) (ao : Option Addr), k ≤ (pts p).length ∧ i = .int .i64 k ∧ v = .slice ao n cap ∧ Coll wr w.heap.size w1.heap.size (fun k => leads (pts p) k j) k ao n cap ∧ Gr w1 wr none) (fun _ i _ => (pts p).length - (intOf i).toNat)
    case atStart => exact ⟨0, 0, 0, _, Nat.zero_le _, rfl, rfl, hC0, Gr.refl _ _⟩
    case round =>
      obtain ⟨k, n, cap, ao, hkl, rfl, rfl, hCo, hgr⟩ := hrel
      have hnk := hCo.le
      have HCo := Lib.hid hCo
      clear hCo hC0 d2
      by_cases hlt : k < (pts p).length
      · go_wp2_with fail
        refine (from_any p gb k _ (HG.out.gr hgr) (by omega) hlt).mono ?_
        rintro e w2 ⟨gf, f, rfl, hF, hfl, hr, hg2, hgf⟩
        have hck := Marked.leads hF hfl hr hj
        have hgr2 : Gr w1 w2 none := hgr.trans0 hg2
        have HCo2 := Lib.hid (HCo.out.gr hg2)
        clear hF hfl hr hg2
        cases hd : leads (pts p) k j with
        | true =>
          have HD := Lib.hid hd
          rw [hd] at hck
          clear hd
          go_wp2_with (at_builtin; refine app_c w2 _ rfl (.tmp 32) (.tmp 34) rfl w.heap.size w1.heap.size ao cap n _ k rfl HCo2.out ((Gr.refl _ _).alloc _) HD.out w2.heap.size 1 rfl (cell_of_row _ _ _ _ _ _ (heap1_0 _ _)) (by omega) hgr2.size ?_; rintro g cap' w4 hC4 hg4)
          go_roundw
          case rel => exact ⟨k + 1, n + 1, cap', _, by omega, by go_num, rfl, hC4, hg4 _ (hgr2.alloc _) (Nat.le_refl _)⟩
          case measure => simp [intOf]; omega
        | false =>
          have HD := Lib.hid hd
          rw [hd] at hck
          clear hd
          go_wp2_with fail
          go_roundw
          case rel => exact ⟨k + 1, n, cap, ao, by omega, by go_num, rfl, HCo2.out.no HD.out, hgr2⟩
          case measure => simp [intOf]; omega
      · obtain rfl : k = (pts p).length := by omega
        go_wp2_with fail
        go_ret
        exact HCo.out.hand HO.out (hG1.trans0 hgr)
  · rw [h2, if_neg (by simp)] at hif
    subst hif
    have HO := Lib.hid (pathsTo_out h2)
    clear h2
    go_wp2_with fail
    go_ret
    rw [HO.out]
    exact HandI.nil _ _ hG1
end Go.Proofs.Ytpnaeijkllmihaa

namespace Go.Proofs.Ytpnaeijkllmihaa

open Go.RowKit

/-! ### The points of loops lead to two -/

def LoopNext (l : List Pt) : Prop := ∀ q ∈ l, q.op = 10 → q.n = 0 → q.next.length = 2
theorem LoopNext.app {l l' : List Pt} (h : LoopNext l) (h' : LoopNext l') : LoopNext (l ++ l') := by
  intro q hq
  rcases List.mem_append.1 hq with hq | hq
  · exact h q hq
  · exact h' q hq
theorem LoopNext.one {q : Pt} (h : q.op = 10 → q.n = 0 → q.next.length = 2) : LoopNext [q] := by
  intro r hr; simp at hr; subst hr; exact h
mutual
theorem ptsS_loop : ∀ (s : St) (a : Nat), LoopNext (ptsS s a)
  | .mk op x y n t e, a => by
    simp only [ptsS]
    split
    · exact (((LoopNext.one (by simp)).app (ptsL_loop t _)).app (LoopNext.one (by simp))).app (ptsL_loop e _)
    · split
      · exact ((LoopNext.one (by simp)).app (ptsL_loop t _)).app (LoopNext.one (by simp))
      · rename_i h1 h2
        exact LoopNext.one (fun h => absurd h (by simpa using h2))
theorem ptsL_loop : ∀ (l : List St) (a : Nat), LoopNext (ptsL l a)
  | [], a => by intro q hq; simp [ptsL] at hq
  | s :: r, a => by
    simp only [ptsL]
    exact (ptsS_loop s a).app (ptsL_loop r _)
end
theorem pts_loop (p : Pr) : LoopNext (pts p) := (ptsL_loop p.body 0).app (LoopNext.one (by simp))

/-! ### The last number that is picked -/

def lastG (f : Nat → Bool) : Nat → Option Nat
  | 0 => none
  | k + 1 => if f k = true then some k else lastG f k
theorem lastG_yes {f : Nat → Bool} {k : Nat} (h : f k = true) : lastG f (k + 1) = some k := by simp [lastG, h]
theorem lastG_no {f : Nat → Bool} {k : Nat} (h : f k = false) : lastG f (k + 1) = lastG f k := by simp [lastG, h]
theorem lastG_le {f : Nat → Bool} {n k : Nat} (h : lastG f n = some k) : k < n ∧ f k = true := by
  induction n with
  | zero => simp [lastG] at h
  | succ n ih =>
    by_cases hf : f n = true
    · rw [lastG_yes hf] at h
      simp at h
      subst h
      exact ⟨by omega, hf⟩
    · rw [lastG_no (by simpa using hf)] at h
      have := ih h
      exact ⟨by omega, this.2⟩
theorem lastG_above {f : Nat → Bool} {m : Nat} (h : ∀ k, m ≤ k → f k = false) : ∀ n, m ≤ n → lastG f n = lastG f m := by
  intro n hn
  induction n with
  | zero => have : m = 0 := by omega
            subst this; rfl
  | succ n ih =>
    by_cases e : m = n + 1
    · subst e; rfl
    · rw [lastG_no (h n (by omega))]; exact ih (by omega)

def ptAt (L : List Pt) (k : Nat) : Pt := L.getD k ⟨0, 0, 0, 0, []⟩
theorem ptAt_get {L : List Pt} {k : Nat} (h : k < L.length) : ptAt L k = L[k] := by simp [ptAt, h]
/-- Where a loop ends. -/
def loopEnd (L : List Pt) (k : Nat) : Nat := (nextOf L k).getD 1 0
/-- Is k the first point of a loop in which the point a is? -/
def inLoop (L : List Pt) (a k : Nat) : Bool := (ptAt L k).op == 10 && ((ptAt L k).n == 0 && (decide (k ≤ a) && decide (a < loopEnd L k)))
def loopSeg (L : List Pt) : Option Nat → List Int
  | none => []
  | some i => upFrom i (loopEnd L i - i)
/-- What LoopOf says. -/
def loopOf (p : Pr) (a : Int) : List Int := if hasTwo p a a = true then loopSeg (ptsOf p) (lastG (inLoop (ptsOf p) a.toNat) (a.toNat + 1)) else []
theorem loopEnd_le {L : List Pt} (hL : NextOk L) {k : Nat} (hk : k < L.length) : loopEnd L k ≤ L.length := by
  unfold loopEnd
  by_cases h : 1 < (nextOf L k).length
  · have := (hL k hk).2 (nextOf L k)[1] (List.getElem_mem h)
    simp [h]; omega
  · rw [List.getD_eq_getElem?_getD, List.getElem?_eq_none (by omega)]; simp
theorem loopOf_len (p : Pr) (a : Int) : (loopOf p a).length ≤ 1048576 := by
  unfold loopOf
  split
  · rename_i h
    obtain ⟨j, k, rfl, hjk, hj, hk, hv, hpp⟩ := hasTwo_in h
    have hN : NextOk (ptsOf p) := pts_ok hpp
    have hml := ptsOf_le p
    cases hg : lastG (inLoop (ptsOf p) (j : Int).toNat) ((j : Int).toNat + 1) with
    | none => simp [loopSeg]
    | some i =>
      have hi := (lastG_le hg).1
      have := loopEnd_le hN (k := i) (by simp at hi; omega)
      simp [loopSeg, upFrom_length]
      omega
  · simp
theorem loopOf_in {p : Pr} {j : Nat} (h : hasTwo p j j = true) : loopOf p j = loopSeg (ptsOf p) (lastG (inLoop (ptsOf p) j) (j + 1)) := by simp [loopOf, h]
theorem loopOf_out {p : Pr} {a : Int} (h : hasTwo p a a = false) : loopOf p a = [] := by simp [loopOf, h]
theorem inLoop_above (L : List Pt) (a k : Nat) (h : a + 1 ≤ k) : inLoop L a k = false := by
  have : decide (k ≤ a) = false := by simp; omega
  simp [inLoop, this]
theorem upFrom_snoc (k : Int) (n : Nat) : upFrom k (n + 1) = upFrom k n ++ [k + n] := by simp [upFrom, List.range_succ]

/-- A point that is the first of a loop leads to two. -/
theorem loop_two {L : List Pt} (hL : LoopNext L) {k : Nat} (hk : k < L.length) {q : Pt} (hq : L[k] = q) (h1 : q.op = 10) (h2 : q.n = 0) : ∃ x0 x1 : Nat, q.next = [x0, x1] ∧ loopEnd L k = x1 := by
  have hl := hL q (hq ▸ List.getElem_mem hk) h1 h2
  match hn : q.next, hl with
  | [x0, x1], _ =>
    refine ⟨x0, x1, rfl, ?_⟩
    unfold loopEnd
    rw [nextOf_get hk, hq, hn]
    rfl
theorem inLoop_of {L : List Pt} {k a : Nat} (hk : k < L.length) {q : Pt} (hq : L[k] = q) : inLoop L a k = (q.op == 10 && (q.n == 0 && (decide (k ≤ a) && decide (a < loopEnd L k)))) := by
  unfold inLoop; rw [ptAt_get hk, hq]

set_option maxRecDepth 100000 in
set_option maxHeartbeats 2000000 in
theorem specLoopOf_any (p : Pr) (a : Int) (at' ab : Option Addr) (ct cb : Nat) (w : World) (hT : InAt w Any p.types at') (hB : SlAt w Any p.body ab) (hs : p.types.length ≤ 1048576) (hc : St.count p.body ≤ 1048576) :
    Calls Try.prog 31 #[.agg #[.slice at' p.types.length ct, .slice ab p.body.length cb], .int .i64 a] w (HandI (loopOf p a) w) := by
  have hlc := count_length p.body
  have hg1 : ∀ o, Gr w (w.alloc o) none := fun o => (Gr.refl _ _).alloc _
  have hml := ptsOf_le p
  go_enter Try.func31, Try.ntmps31
  go_wp2_with fail
  refine (specPointsOf_any p at' ab ct cb _ (hT.gr0 (hg1 _)) (hB.gr0 (hg1 _)) hs hc).mono ?_
  rintro e w1 ⟨M, am, c, hM, rfl, hown, hg⟩
  subst hM
  have hG1 : Gr w w1 none := (hg1 _).trans0 hg
  have HR := Lib.hid hown.read
  clear hg hown
  rcases one_cases p a with ⟨j, rfl, hj, hpp, h2⟩ | ⟨hout, h2⟩
  · have HO := Lib.hid (loopOf_in h2)
    have HN := Lib.hid (pts_ok hpp)
    have HL := Lib.hid (show LoopNext (ptsOf p) by rw [hpp]; exact pts_loop p)
    have hC0 : Lst (w1.alloc (.cells #[] 3)) w.heap.size w1.heap.size (loopSeg (ptsOf p) (lastG (inLoop (ptsOf p) j) 0)) (some ⟨w1.heap.size, 0, none⟩) 0 0 := Lst.empty hG1.size hG1.size (heap1_0 _ _)
    clear h2 hpp
    go_wp2_with fail
    go_loopw [6, 7] (fun v i wr => ∃ (k n cap : Nat) (ao : Option Addr), k ≤ (ptsOf p).length ∧ i = .int .i64 k ∧ v = .slice ao n cap ∧ Lst wr w.heap.size w1.heap.size (loopSeg (ptsOf p) (lastG (inLoop (ptsOf p) j) k)) ao n cap ∧ Gr w1 wr none) (fun _ i _ => (ptsOf p).length - (intOf i).toNat)
    case atStart => exact ⟨0, 0, 0, _, Nat.zero_le _, rfl, rfl, hC0, (Gr.refl _ _).alloc _⟩
    case round =>
      obtain ⟨k, n, cap, ao, hkl, rfl, rfl, hCo, hgr⟩ := hrel
      have HCo := Lib.hid hCo
      clear hCo hC0
      by_cases hlt : k < (ptsOf p).length
      · obtain ⟨b, po, rfl, an, cn, c0, -, -, c3, c4, hin, -⟩ := (HR.out.gr hgr) k hlt
        obtain ⟨q, eq⟩ : ∃ q, (ptsOf p)[k] = q := ⟨_, rfl⟩
        rw [eq] at c0 c3 c4 hin
        have HI := Lib.hid (inLoop_of (a := j) hlt eq)
        by_cases h1 : q.op = 10
        · by_cases h2 : q.n = 0
          · obtain ⟨x0, x1, hqn, hle⟩ := loop_two HL.out hlt eq h1 h2
            have hx1l := loopEnd_le HN.out hlt
            rw [hle] at hx1l
            have HLE := Lib.hid hle
            have H1 := Lib.hid h1
            have H2 := Lib.hid h2
            rw [h1] at c0
            rw [h2] at c3
            rw [hqn] at c4 hin
            have hl2 : [x0, x1].length = 2 := rfl
            rw [hl2] at c4
            obtain ⟨ba, oa, rfl, -, hx1⟩ := hin.at (i := 1) (by simp [zs])
            rw [show (zs [x0, x1])[1]'(by simp [zs]) = (x1 : Int) from rfl] at hx1
            clear hle h1 h2 hqn hl2 hin eq
            by_cases h3 : k ≤ j
            · by_cases h4 : j < x1
              · have hyes : inLoop (ptsOf p) j k = true := by rw [HI.out, H1.out, H2.out, HLE.out]; simp; omega
                have HY := Lib.hid hyes
                have hd3 : decide (j < k) = false := by simp; omega
                have hd4 : decide (x1 ≤ j) = false := by simp; omega
                clear hyes HCo
                go_wp2_with fail
                all_goals (try (exfalso; omega; done))
                clear hd3 hd4
                obtain ⟨wo, rfl⟩ : ∃ wo : World, wo = wr := ⟨_, rfl⟩
                have hC1 : Lst (wo.alloc (.cells #[] 3)) w.heap.size wo.heap.size (upFrom k 0) (some ⟨wo.heap.size, 0, none⟩) 0 0 := Lst.empty (hG1.trans0 hgr).size (hG1.trans0 hgr).size (heap1_0 _ _)
                go_loopw [6, 8] (fun v i wi => ∃ (m n cap : Nat) (ao : Option Addr), k + m ≤ x1 ∧ i = .int .i64 ((k + m : Nat) : Int) ∧ v = .slice ao n cap ∧ Lst wi w.heap.size wo.heap.size (upFrom k m) ao n cap ∧ Gr wo wi none) (fun _ i _ => x1 - (intOf i).toNat)
                case atStart => exact ⟨0, 0, 0, _, by omega, rfl, rfl, hC1, (Gr.refl _ _).alloc _⟩
                case round =>
                  obtain ⟨m, n2, cap2, ao2, hml2, rfl, rfl, hC2, hgi⟩ := hrel
                  have HC2 := Lib.hid hC2
                  have hn2 : n2 = m := by have := hC2.1; rw [upFrom_length] at this; omega
                  subst hn2
                  replace c4 := hgi.cell c4 (by simp)
                  replace hx1 := hgi.cell hx1 (by simp)
                  clear hC2 hC1 c0 c3
                  by_cases hlt2 : k + n2 < x1
                  · rename World => wi
                    go_wp2_with (at_builtin; refine app_l wi _ rfl (.tmp 70) (.tmp 72) rfl w.heap.size wo.heap.size ao2 cap2 n2 _ ((k + n2 : Nat) : Int) rfl HC2.out ((Gr.refl _ _).alloc _) wi.heap.size 1 rfl (cell_of_row _ _ _ _ _ _ (heap1_0 _ _)) (by omega) hgi.size ?_; rintro g cap' w4 hC4 hg4)
                    go_roundw
                    case rel => exact ⟨n2 + 1, n2 + 1, cap', _, by omega, by go_num, rfl, by rw [upFrom_snoc]; simpa using hC4, hg4 _ (hgi.alloc _) (Nat.le_refl _)⟩
                    case measure => simp [intOf]; omega
                  · go_wp2_with fail
                    go_roundw
                    case rel => exact ⟨k + 1, n2, cap2, ao2, by omega, by go_num, rfl, by rw [lastG_yes HY.out]; simp only [loopSeg]; rw [HLE.out, show x1 - k = n2 from by omega]; exact HC2.out.base hG1.size hgr.size, hgr.trans0 hgi⟩
                    case measure => simp [intOf]; omega
              · have hno : inLoop (ptsOf p) j k = false := by rw [HI.out, HLE.out]; simp; omega
                have HY := Lib.hid hno
                have hd3 : decide (j < k) = false := by simp; omega
                have hd4 : decide (x1 ≤ j) = true := by simp; omega
                clear hno
                go_wp2_with fail
                all_goals (try (exfalso; omega; done))
                go_roundw
                case rel => exact ⟨k + 1, n, cap, ao, by omega, by go_num, rfl, by rw [lastG_no HY.out]; exact HCo.out, hgr⟩
                case measure => simp [intOf]; omega
            · have hno : inLoop (ptsOf p) j k = false := by rw [HI.out]; simp; omega
              have HY := Lib.hid hno
              have hd3 : decide (j < k) = true := by simp; omega
              clear hno
              go_wp2_with fail
              all_goals (try (exfalso; omega; done))
              go_roundw
              case rel => exact ⟨k + 1, n, cap, ao, by omega, by go_num, rfl, by rw [lastG_no HY.out]; exact HCo.out, hgr⟩
              case measure => simp [intOf]; omega
          · have hno : inLoop (ptsOf p) j k = false := by rw [HI.out]; simp [h2]
            have HY := Lib.hid hno
            rw [h1] at c0
            clear hno h1 c4 hin eq
            go_wp2_with fail
            go_roundw
            case rel => exact ⟨k + 1, n, cap, ao, by omega, by go_num, rfl, by rw [lastG_no HY.out]; exact HCo.out, hgr⟩
            case measure => simp [intOf]; omega
        · have hno : inLoop (ptsOf p) j k = false := by rw [HI.out]; simp [h1]
          have HY := Lib.hid hno
          clear hno c3 c4 hin eq
          go_wp2_with fail
          go_roundw
          case rel => exact ⟨k + 1, n, cap, ao, by omega, by go_num, rfl, by rw [lastG_no HY.out]; exact HCo.out, hgr⟩
          case measure => simp [intOf]; omega
      · obtain rfl : k = (ptsOf p).length := by omega
        go_wp2_with fail
        go_ret
        exact HCo.out.hand (by rw [HO.out, lastG_above (inLoop_above (ptsOf p) j) (ptsOf p).length (by omega)]) (hG1.trans0 hgr)
  · have HO := Lib.hid (loopOf_out h2)
    clear h2
    rcases hout with hout | hout
    all_goals
      go_wp2_with fail
      all_goals
        go_ret
        rw [HO.out]
        exact HandI.own (l := []) rfl (own_empty hG1.size (heap1_0 _ _)) (hG1.alloc _)

set_option maxRecDepth 100000 in
set_option maxHeartbeats 2000000 in
theorem implLoopOf_any (p : Pr) (a : Int) (at' ab : Option Addr) (ct cb : Nat) (w : World) (hT : InAt w Any p.types at') (hB : SlAt w Any p.body ab) (hs : p.types.length ≤ 1048576) (hc : p.body.length ≤ 1048576) :
    Calls Try.prog 29 #[.agg #[.slice at' p.types.length ct, .slice ab p.body.length cb], .int .i64 a] w (HandI (loopOf p a) w) := by
  have hg1 : ∀ o o', Gr w ((w.alloc o).alloc o') none := fun o o' => ((Gr.refl _ _).alloc _).alloc _
  have hml := ptsOf_le p
  go_enter Try.func29, Try.ntmps29
  go_wp2_with fail
  refine (graphOf_any p [a] at' ab _ ct cb _ _ (hT.gr0 (hg1 _ _)) (hB.gr0 (hg1 _ _)) (inAt_one _ _ _) hs hc (by simp)).mono ?_
  rintro e w1 ⟨hg, hif⟩
  have hG1 : Gr w w1 none := (hg1 _ _).trans0 hg
  clear hg
  rw [graphOk_one] at hif
  rcases one_cases p a with ⟨j, rfl, hj, hpp, h2⟩ | ⟨_, h2⟩
  · rw [h2, if_pos rfl] at hif
    obtain ⟨gb, rfl, hgb, hGA⟩ := hif
    have HO := Lib.hid (show loopOf p j = loopSeg (pts p) (lastG (inLoop (pts p) j) (j + 1)) by rw [loopOf_in h2, hpp])
    rw [hpp] at hj hml
    clear h2 hpp
    have HN := Lib.hid (pts_next p)
    have HL := Lib.hid (pts_loop p)
    obtain ⟨L, a3, n3, a4, n4, al, cl, hL, d0, d1, d2, hr1, hr2, hr3⟩ := hGA
    have HR := Lib.hid hr3
    subst hL
    clear d0 d1 hr1 hr2 hr3
    go_wp2_with fail
    go_loopw [7] (fun i wr => ((∃ k : Nat, k ≤ j ∧ i = .int .i64 k ∧ lastG (inLoop (pts p) j) (j + 1) = lastG (inLoop (pts p) j) (k + 1)) ∨ (i = .int .i64 (-1) ∧ lastG (inLoop (pts p) j) (j + 1) = none)) ∧ Gr w1 wr none) (fun i _ => (intOf i + 1).toNat)
    case atStart => exact ⟨.inl ⟨j, Nat.le_refl _, rfl, rfl⟩, Gr.refl _ _⟩
    case round =>
      obtain ⟨hcase, hgr⟩ := hrel
      rename World => wr
      replace d2 := hgr.cell d2 (by simp)
      rcases hcase with ⟨k, hk, rfl, hlg⟩ | ⟨rfl, hlg⟩
      · have HG := Lib.hid hlg
        clear hlg
        have hlt : k < (pts p).length := by omega
        obtain ⟨b, po, rfl, an, cn, c0, c1, c2, c3, c4, hin, -⟩ := (HR.out.gr hgr) k hlt
        obtain ⟨q, eq⟩ : ∃ q, (pts p)[k] = q := ⟨_, rfl⟩
        rw [eq] at c0 c1 c2 c3 c4 hin
        have HI := Lib.hid (inLoop_of (a := j) hlt eq)
        have hno : inLoop (pts p) j k = false → (∃ k' : Nat, k' ≤ j ∧ Value.int .i64 ((k : Int) - 1) = .int .i64 k' ∧ lastG (inLoop (pts p) j) (j + 1) = lastG (inLoop (pts p) j) (k' + 1)) ∨ (Value.int .i64 ((k : Int) - 1) = .int .i64 (-1) ∧ lastG (inLoop (pts p) j) (j + 1) = none) := by
          intro hn
          rcases k with _ | k'
          · exact .inr ⟨rfl, by rw [HG.out, lastG_no hn]; rfl⟩
          · exact .inl ⟨k', by omega, by rw [show (((k' + 1 : Nat) : Int) - 1) = k' from by omega], by rw [HG.out, lastG_no hn]⟩
        have HNO := Lib.hid hno
        clear hno
        by_cases h1 : q.op = 10
        · by_cases h2 : q.n = 0
          · obtain ⟨x0, x1, hqn, hle⟩ := loop_two HL.out hlt eq h1 h2
            have hx1l := loopEnd_le HN.out hlt
            rw [hle] at hx1l
            have HLE := Lib.hid hle
            have H1 := Lib.hid h1
            have H2 := Lib.hid h2
            rw [h1] at c0
            rw [h2] at c3
            rw [hqn] at c4 hin
            have hl2 : [x0, x1].length = 2 := rfl
            rw [hl2] at c4
            obtain ⟨ba, oa, rfl, -, hx1⟩ := hin.at (i := 1) (by simp [zs])
            rw [show (zs [x0, x1])[1]'(by simp [zs]) = (x1 : Int) from rfl] at hx1
            have hbl : ba < wr.heap.size := lt_of_cell hx1
            clear hle h1 h2 hqn hl2 hin eq
            by_cases h4 : j < x1
            · have hyes : inLoop (pts p) j k = true := by rw [HI.out, H1.out, H2.out, HLE.out]; simp; omega
              have HY := Lib.hid hyes
              have hgx : ∀ o, Gr wr (wr.alloc o) none := fun o => (Gr.refl _ _).alloc _
              have hx1' : ∀ o, (wr.alloc o).cell? ⟨ba, oa + 1, none⟩ = some (.int .i64 x1) := fun o => (hgx o).cell hx1 (by simp)
              have HX := Lib.hid hx1'
              have hd4 : decide (x1 ≤ j) = false := by simp; omega
              clear hyes hx1'
              go_wp2_with fail
              all_goals (try (exfalso; omega; done))
              clear hd4
              obtain ⟨wo, hwo⟩ : ∃ wo : World, wo = wr.alloc (.cells #[.int .i64 10, .int .i64 q.x, .int .i64 q.y, .int .i64 0, .slice (some ⟨ba, oa, none⟩) 2 cn] 38) := ⟨_, rfl⟩
              have hC1 : Lst wo w.heap.size wo.heap.size (upFrom k 0) none 0 0 := Lst.nil _ (by rw [hwo]; have := (hG1.trans0 hgr).size; simp; omega)
              have e4 : wo.cell? ⟨wr.heap.size, 4, none⟩ = some (.slice (some ⟨ba, oa, none⟩) 2 cn) := by rw [hwo]; exact cell_of_row _ _ _ _ _ _ (heap1_0 _ _)
              have e1 : wo.cell? ⟨ba, oa + 1, none⟩ = some (.int .i64 x1) := by rw [hwo]; exact HX.out _
              have hGo : Gr w1 wo none := by rw [hwo]; exact hgr.alloc _
              rw [← hwo]
              clear hwo c0 c1 c2 c3 c4 hx1 d2
              go_loopw [9, 10] (fun v i wi => ∃ (m n cap : Nat) (ao : Option Addr), k + m ≤ x1 ∧ i = .int .i64 ((k + m : Nat) : Int) ∧ v = .slice ao n cap ∧ Lst wi w.heap.size wo.heap.size (upFrom k m) ao n cap ∧ Gr wo wi none) (fun _ i _ => x1 - (intOf i).toNat)
              case atStart => exact ⟨0, 0, 0, _, by omega, rfl, rfl, hC1, Gr.refl _ _⟩
              case round =>
                obtain ⟨m, n2, cap2, ao2, hml2, rfl, rfl, hC2, hgi⟩ := hrel
                have HC2 := Lib.hid hC2
                have hn2 : n2 = m := by have := hC2.1; rw [upFrom_length] at this; omega
                subst hn2
                replace e4 := hgi.cell e4 (by simp)
                replace e1 := hgi.cell e1 (by simp)
                clear hC2 hC1
                by_cases hlt2 : k + n2 < x1
                · rename World => wi
                  go_wp2_with (at_builtin; refine app_l wi _ rfl (.tmp 57) (.tmp 59) rfl w.heap.size wo.heap.size ao2 cap2 n2 _ ((k + n2 : Nat) : Int) rfl HC2.out ((Gr.refl _ _).alloc _) wi.heap.size 1 rfl (cell_of_row _ _ _ _ _ _ (heap1_0 _ _)) (by omega) hgi.size ?_; rintro g cap' w4 hC4 hg4)
                  go_roundw
                  case rel => exact ⟨n2 + 1, n2 + 1, cap', _, by omega, by go_num, rfl, by rw [upFrom_snoc]; simpa using hC4, hg4 _ (hgi.alloc _) (Nat.le_refl _)⟩
                  case measure => simp [intOf]; omega
                · go_wp2_with fail
                  go_ret
                  exact HC2.out.hand (by rw [HO.out, HG.out, lastG_yes HY.out]; simp only [loopSeg]; rw [HLE.out, show x1 - k = n2 from by omega]) ((hG1.trans0 hGo).trans0 hgi)
            · have hno : inLoop (pts p) j k = false := by rw [HI.out, HLE.out]; simp; omega
              have HY := Lib.hid hno
              have hgx : ∀ o, Gr wr (wr.alloc o) none := fun o => (Gr.refl _ _).alloc _
              have hx1' : ∀ o, (wr.alloc o).cell? ⟨ba, oa + 1, none⟩ = some (.int .i64 x1) := fun o => (hgx o).cell hx1 (by simp)
              have hd4 : decide (x1 ≤ j) = true := by simp; omega
              clear hno
              go_wp2_with fail
              all_goals (try (exfalso; omega; done))
              go_roundw
              case rel => exact ⟨HNO.out HY.out, hgr.alloc _⟩
              case measure => simp [intOf]
          · have hno : inLoop (pts p) j k = false := by rw [HI.out]; simp [h2]
            have HY := Lib.hid hno
            rw [h1] at c0
            clear hno h1 hin eq
            go_wp2_with fail
            go_roundw
            case rel => exact ⟨HNO.out HY.out, hgr.alloc _⟩
            case measure => simp [intOf]
        · have hno : inLoop (pts p) j k = false := by rw [HI.out]; simp [h1]
          have HY := Lib.hid hno
          clear hno hin eq
          go_wp2_with fail
          go_roundw
          case rel => exact ⟨HNO.out HY.out, hgr.alloc _⟩
          case measure => simp [intOf]
      · have HG := Lib.hid hlg
        clear hlg
        go_wp2_with fail
        go_ret
        rw [HO.out, HG.out]
        exact HandI.nil _ _ (hG1.trans0 hgr)
  · rw [h2, if_neg (by simp)] at hif
    subst hif
    have HO := Lib.hid (loopOf_out h2)
    clear h2
    go_wp2_with fail
    go_ret
    rw [HO.out]
    exact HandI.nil _ _ hG1
end Go.Proofs.Ytpnaeijkllmihaa
