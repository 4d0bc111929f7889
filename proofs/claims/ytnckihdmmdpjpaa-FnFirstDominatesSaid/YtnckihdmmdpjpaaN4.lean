/- PathsFrom and PathsTo, of the program and of the reference: both hand back the same lists. -/
import Derived.Test.YtnckihdmmdpjpaaN3
import Derived.Test.YtnckihdmmdpjpaaN1
namespace Go.Proofs.Ytnckihdmmdpjpaa
open Go.RowKit

theorem one_cases (p : Pr) (a : Int) : (∃ k : Nat, a = k ∧ k < (ptsOf p).length ∧ ptsOf p = pts p ∧ hasTwo p a a = true) ∨ ((a < 0 ∨ (ptsOf p).length ≤ a) ∧ hasTwo p a a = false) := by
  cases h : hasTwo p a a with
  | true =>
    obtain ⟨j, k, e1, e2, hj, hk, hv, hpp⟩ := hasTwo_in h
    exact .inl ⟨j, e1, hj, hpp, rfl⟩
  | false =>
    refine .inr ⟨?_, rfl⟩
    unfold hasTwo at h
    by_cases h1 : a < 0
    · exact .inl h1
    · refine .inr ?_
      by_cases h2 : a < (ptsOf p).length
      · simp at h; omega
      · omega
theorem pts_ok {p : Pr} (h : ptsOf p = pts p) : NextOk (ptsOf p) := by rw [h]; exact pts_next p
/-- Does the point j lead to the point k? -/
noncomputable def leads (L : List Pt) (j k : Nat) : Bool := reach L (nextOf L j) (-1) k
theorem Marked.leads {L : List Pt} {j : Nat} {w' : World} {gf : Nat} {f : List Bool} (hF : Flags w' gf f) (hl : f.length = L.length) (h : ∀ k : Nat, f[k]? = some true ↔ Rch L (nextOf L j) (-1) k) {k : Nat} (hk : k < L.length) :
    w'.cell? ⟨gf, k, none⟩ = some (.bool (leads L j k)) := Marked.cell hF hl h hk

/-- What PathsFrom says. -/
noncomputable def pathsFrom (p : Pr) (a : Int) : List Int := if hasTwo p a a = true then coll (fun k => leads (ptsOf p) a.toNat k) (ptsOf p).length else []
theorem pathsFrom_len (p : Pr) (a : Int) : (pathsFrom p a).length ≤ 1048576 := by
  unfold pathsFrom
  split
  · have := coll_le (fun k => leads (ptsOf p) a.toNat k) (ptsOf p).length
    have := ptsOf_le p
    omega
  · simp
theorem pathsFrom_in {p : Pr} {j : Nat} (h : hasTwo p j j = true) : pathsFrom p j = coll (fun k => leads (ptsOf p) j k) (ptsOf p).length := by simp [pathsFrom, h]
theorem pathsFrom_out {p : Pr} {a : Int} (h : hasTwo p a a = false) : pathsFrom p a = [] := by simp [pathsFrom, h]
/-- What PathsTo says. -/
noncomputable def pathsTo (p : Pr) (a : Int) : List Int := if hasTwo p a a = true then coll (fun k => leads (ptsOf p) k a.toNat) (ptsOf p).length else []
theorem pathsTo_len (p : Pr) (a : Int) : (pathsTo p a).length ≤ 1048576 := by
  unfold pathsTo
  split
  · have := coll_le (fun k => leads (ptsOf p) k a.toNat) (ptsOf p).length
    have := ptsOf_le p
    omega
  · simp
theorem pathsTo_in {p : Pr} {j : Nat} (h : hasTwo p j j = true) : pathsTo p j = coll (fun k => leads (ptsOf p) k j) (ptsOf p).length := by simp [pathsTo, h]
theorem pathsTo_out {p : Pr} {a : Int} (h : hasTwo p a a = false) : pathsTo p a = [] := by simp [pathsTo, h]

set_option maxRecDepth 100000 in
set_option maxHeartbeats 1000000 in
theorem specPathsFrom_any (p : Pr) (a : Int) (at' ab : Option Addr) (ct cb : Nat) (w : World) (hT : InAt w Any p.types at') (hB : SlAt w Any p.body ab) (hs : p.types.length ≤ 1048576) (hc : St.count p.body ≤ 1048576) :
    Calls Try.prog 47 #[.agg #[.slice at' p.types.length ct, .slice ab p.body.length cb], .int .i64 a] w (HandI (pathsFrom p a) w) := by
  have hlc := count_length p.body
  have hg1 : ∀ o o', Gr w ((w.alloc o).alloc o') none := fun o o' => ((Gr.refl _ _).alloc _).alloc _
  have hml := ptsOf_le p
  go_enter Try.func47, Try.ntmps47
  go_wp2_with fail
  refine (specPointsOf_any p at' ab ct cb _ (hT.gr0 (hg1 _ _)) (hB.gr0 (hg1 _ _)) hs hc).mono ?_
  rintro e w1 ⟨M, am, c, hM, rfl, hown, hg⟩
  subst hM
  have hG1 : Gr w w1 none := (hg1 _ _).trans0 hg
  have hE : w1.heap[w.heap.size + 1]? = some (.cells #[] 3 (0, 0)) := (hg.block _ (by simp) (by simp)).trans (heap2_1 _ _ _)
  have HE := Lib.hid hE
  have HR := Lib.hid hown.read
  clear hg hE hown
  rcases one_cases p a with ⟨j, rfl, hj, hpp, h2⟩ | ⟨hout, h2⟩
  · have HO := Lib.hid (pathsFrom_in h2)
    have HN := Lib.hid (pts_ok hpp)
    clear h2 hpp
    go_wp2_with fail
    refine (l2From_any (ptsOf p) am c j _ HR.out HN.out (by omega) hj).mono ?_
    rintro e w2 ⟨gf, f, rfl, hF, hfl, hr, hg2, hgf⟩
    have hG2 : Gr w w2 none := hG1.trans0 hg2
    have hC0 : Coll w2 w.heap.size w2.heap.size (fun k => leads (ptsOf p) j k) 0 (some ⟨w.heap.size + 1, 0, none⟩) 0 0 := (Coll.empty hG2.size _ (by omega) HE.out).gr hg2
    have hcell : ∀ k, k < (ptsOf p).length → w2.cell? ⟨gf, k, none⟩ = some (.bool (leads (ptsOf p) j k)) := fun k hk => Marked.leads hF hfl hr hk
    have HC := Lib.hid hcell
    clear hF hfl hr hg2 hcell
    go_wp2_with fail
    go_loopw [5, 8] (fun v i wr => ∃ (k n cap : Nat) (ao : Option Addr), k ≤ (ptsOf p).length ∧ i = .int .i64 k ∧ v = .slice ao n cap ∧ Coll wr w.heap.size w2.heap.size (fun k => leads (ptsOf p) j k) k ao n cap ∧ Gr w2 wr none) (fun _ i _ => (ptsOf p).length - (intOf i).toNat)
    case atStart => exact ⟨0, 0, 0, _, Nat.zero_le _, rfl, rfl, hC0, Gr.refl _ _⟩
    case round =>
      obtain ⟨k, n, cap, ao, hkl, rfl, rfl, hCo, hgr⟩ := hrel
      have hnk := hCo.le
      have HCo := Lib.hid hCo
      clear hCo hC0
      by_cases hlt : k < (ptsOf p).length
      · have hck := hgr.cell (HC.out k hlt) (by simp)
        cases hd : leads (ptsOf p) j k with
        | true =>
          have HD := Lib.hid hd
          rw [hd] at hck
          clear hd
          go_wp2_with (at_builtin; refine app_c wr _ rfl (.tmp 34) (.tmp 36) rfl w.heap.size w2.heap.size ao cap n _ k rfl HCo.out ((Gr.refl _ _).alloc _) HD.out wr.heap.size 1 rfl (cell_of_row _ _ _ _ _ _ (heap1_0 _ _)) (by omega) hgr.size ?_; rintro g cap' w4 hC4 hg4)
          go_roundw
          case rel => exact ⟨k + 1, n + 1, cap', _, by omega, by go_num, rfl, hC4, hg4 _ (hgr.alloc _) (Nat.le_refl _)⟩
          case measure => simp [intOf]; omega
        | false =>
          have HD := Lib.hid hd
          rw [hd] at hck
          clear hd
          go_wp2_with fail
          go_roundw
          case rel => exact ⟨k + 1, n, cap, ao, by omega, by go_num, rfl, HCo.out.no HD.out, hgr⟩
          case measure => simp [intOf]; omega
      · obtain rfl : k = (ptsOf p).length := by omega
        go_wp2_with fail
        go_ret
        exact HCo.out.hand HO.out (hG2.trans0 hgr)
  · have HO := Lib.hid (pathsFrom_out h2)
    clear h2
    rcases hout with hout | hout
    all_goals
      go_wp2_with fail
      all_goals
        go_ret
        rw [HO.out]
        exact HandI.own (l := []) rfl (own_empty (by omega) HE.out) hG1
set_option maxRecDepth 100000 in
set_option maxHeartbeats 1000000 in
theorem specPathsTo_any (p : Pr) (a : Int) (at' ab : Option Addr) (ct cb : Nat) (w : World) (hT : InAt w Any p.types at') (hB : SlAt w Any p.body ab) (hs : p.types.length ≤ 1048576) (hc : St.count p.body ≤ 1048576) :
    Calls Try.prog 22 #[.agg #[.slice at' p.types.length ct, .slice ab p.body.length cb], .int .i64 a] w (HandI (pathsTo p a) w) := by
  have hlc := count_length p.body
  have hg1 : ∀ o o', Gr w ((w.alloc o).alloc o') none := fun o o' => ((Gr.refl _ _).alloc _).alloc _
  have hml := ptsOf_le p
  go_enter Try.func22, Try.ntmps22
  go_wp2_with fail
  refine (specPointsOf_any p at' ab ct cb _ (hT.gr0 (hg1 _ _)) (hB.gr0 (hg1 _ _)) hs hc).mono ?_
  rintro e w1 ⟨M, am, c, hM, rfl, hown, hg⟩
  subst hM
  have hG1 : Gr w w1 none := (hg1 _ _).trans0 hg
  have hE : w1.heap[w.heap.size + 1]? = some (.cells #[] 3 (0, 0)) := (hg.block _ (by simp) (by simp)).trans (heap2_1 _ _ _)
  have HE := Lib.hid hE
  have HR := Lib.hid hown.read
  clear hg hE hown
  rcases one_cases p a with ⟨j, rfl, hj, hpp, h2⟩ | ⟨hout, h2⟩
  · have HO := Lib.hid (pathsTo_in h2)
    have HN := Lib.hid (pts_ok hpp)
    have hC0 : Coll w1 w.heap.size w1.heap.size (fun k => leads (ptsOf p) k j) 0 (some ⟨w.heap.size + 1, 0, none⟩) 0 0 := Coll.empty hG1.size _ (by omega) HE.out
    clear h2 hpp
    go_wp2_with fail
    go_loopw [5, 7] (fun v i wr => ∃ (k n cap : Nat) (ao : Option Addr), k ≤ (ptsOf p).length ∧ i = .int .i64 k ∧ v = .slice ao n cap ∧ Coll wr w.heap.size w1.heap.size (fun k => leads (ptsOf p) k j) k ao n cap ∧ Gr w1 wr none) (fun _ i _ => (ptsOf p).length - (intOf i).toNat)
    case atStart => exact ⟨0, 0, 0, _, Nat.zero_le _, rfl, rfl, hC0, Gr.refl _ _⟩
    case round =>
      obtain ⟨k, n, cap, ao, hkl, rfl, rfl, hCo, hgr⟩ := hrel
      have hnk := hCo.le
      have HCo := Lib.hid hCo
      clear hCo hC0
      by_cases hlt : k < (ptsOf p).length
      · go_wp2_with fail
        refine (l2From_any (ptsOf p) am c k _ (HR.out.gr hgr) HN.out (by omega) hlt).mono ?_
        rintro e w2 ⟨gf, f, rfl, hF, hfl, hr, hg2, hgf⟩
        have hck := Marked.leads hF hfl hr hj
        have hgr2 : Gr w1 w2 none := hgr.trans0 hg2
        have HCo2 := Lib.hid (HCo.out.gr hg2)
        clear hF hfl hr hg2
        cases hd : leads (ptsOf p) k j with
        | true =>
          have HD := Lib.hid hd
          rw [hd] at hck
          clear hd
          go_wp2_with (at_builtin; refine app_c w2 _ rfl (.tmp 33) (.tmp 35) rfl w.heap.size w1.heap.size ao cap n _ k rfl HCo2.out ((Gr.refl _ _).alloc _) HD.out w2.heap.size 1 rfl (cell_of_row _ _ _ _ _ _ (heap1_0 _ _)) (by omega) hgr2.size ?_; rintro g cap' w4 hC4 hg4)
          go_roundw
          case rel => exact ⟨k + 1, n + 1, cap', _, by omega, by go_num, rfl, hC4, hg4 _ (hgr2.alloc _) (Nat.le_refl _)⟩
          case measure => simp [intOf]; omega
        | false =>
          have HD := Lib.hid hd
          rw [hd] at hck
          clear hd
          go_wp2_with fail
          go_roundw
          case rel => exact ⟨k + 1, n, cap, ao, by omega, by go_num, rfl, HCo2.out.no HD.out, hgr2⟩
          case measure => simp [intOf]; omega
      · obtain rfl : k = (ptsOf p).length := by omega
        go_wp2_with fail
        go_ret
        exact HCo.out.hand HO.out (hG1.trans0 hgr)
  · have HO := Lib.hid (pathsTo_out h2)
    clear h2
    have hC0 : HandI [] w (.returned (.slice (some ⟨w.heap.size + 1, 0, none⟩) 0 0)) w1 := HandI.own (l := []) rfl (own_empty (by omega) HE.out) hG1
    have HC0 := Lib.hid hC0
    clear hC0
    rcases hout with hout | hout
    all_goals
      go_wp2_with fail
      go_loop [5, 7] (fun v i => v = .slice (some ⟨w.heap.size + 1, 0, none⟩) 0 0 ∧ i = .int .i64 0) (fun _ _ => 0)
      case atStart => exact ⟨rfl, rfl⟩
      case round =>
        obtain ⟨rfl, rfl⟩ := hrel
        go_wp2_with fail
        all_goals
          go_ret
          rw [HO.out]
          exact HC0.out

set_option maxRecDepth 100000 in
set_option maxHeartbeats 1000000 in
/-- The places at which a list of marks is true. -/
theorem indices_any (gf : Nat) (n c : Nat) (F : Nat → Bool) (w : World) (hF : ∀ k, k < n → w.cell? ⟨gf, k, none⟩ = some (.bool (F k))) (hn : n ≤ 1000) :
    Calls Try.prog 71 #[.slice (some ⟨gf, 0, none⟩) n c] w (HandI (coll F n) w) := by
  have HF := Lib.hid hF
  clear hF
  have hC0 : Coll w w.heap.size w.heap.size F 0 none 0 0 := Coll.nil _ (Nat.le_refl _) _
  go_enter Try.func71, Try.ntmps71
  go_wp2_with fail
  go_loopw [3, 8] (fun v i wr => ∃ (k m cap : Nat) (ao : Option Addr), k ≤ n ∧ i = .int .i64 k ∧ v = .slice ao m cap ∧ Coll wr w.heap.size w.heap.size F k ao m cap ∧ Gr w wr none) (fun _ i _ => n - (intOf i).toNat)
  case atStart => exact ⟨0, 0, 0, _, Nat.zero_le _, rfl, rfl, hC0, Gr.refl _ _⟩
  case round =>
    obtain ⟨k, m, cap, ao, hkl, rfl, rfl, hCo, hgr⟩ := hrel
    have hnk := hCo.le
    have HCo := Lib.hid hCo
    clear hCo hC0
    by_cases hlt : k < n
    · have hck := hgr.cell (HF.out k hlt) (by simp)
      cases hd : F k with
      | true =>
        have HD := Lib.hid hd
        rw [hd] at hck
        clear hd
        go_wp2_with (at_builtin; refine app_c wr _ rfl (.tmp 14) (.tmp 16) rfl w.heap.size w.heap.size ao cap m _ k rfl HCo.out ((Gr.refl _ _).alloc _) HD.out wr.heap.size 1 rfl (cell_of_row _ _ _ _ _ _ (heap1_0 _ _)) (by omega) hgr.size ?_; rintro g cap' w4 hC4 hg4)
        go_roundw
        case rel => exact ⟨k + 1, m + 1, cap', _, by omega, by go_num, rfl, hC4, hg4 _ (hgr.alloc _) (Nat.le_refl _)⟩
        case measure => simp [intOf]; omega
      | false =>
        have HD := Lib.hid hd
        rw [hd] at hck
        clear hd
        go_wp2_with fail
        go_roundw
        case rel => exact ⟨k + 1, m, cap, ao, by omega, by go_num, rfl, HCo.out.no HD.out, hgr⟩
        case measure => simp [intOf]; omega
    · obtain rfl : k = n := by omega
      go_wp2_with fail
      go_ret
      exact HCo.out.hand rfl hgr
theorem HandI.after {l : List Int} {w0 w w' : World} {e : Ending} (h : HandI l w e w') (hg : Gr w0 w none) : HandI l w0 e w' := by
  obtain ⟨a, c, he, h1, h2, h3, h4⟩ := h
  exact ⟨a, c, he, h1, fun g hgo => ⟨Nat.le_trans hg.size (h2 g hgo).1, (h2 g hgo).2⟩, h3, hg.trans0 h4⟩
set_option maxRecDepth 100000 in
set_option maxHeartbeats 1000000 in
theorem implPathsFrom_any (p : Pr) (a : Int) (at' ab : Option Addr) (ct cb : Nat) (w : World) (hT : InAt w Any p.types at') (hB : SlAt w Any p.body ab) (hs : p.types.length ≤ 1048576) (hc : p.body.length ≤ 1048576) :
    Calls Try.prog 24 #[.agg #[.slice at' p.types.length ct, .slice ab p.body.length cb], .int .i64 a] w (HandI (pathsFrom p a) w) := by
  have hg1 : ∀ o o', Gr w ((w.alloc o).alloc o') none := fun o o' => ((Gr.refl _ _).alloc _).alloc _
  have hml := ptsOf_le p
  go_enter Try.func24, Try.ntmps24
  go_wp2_with fail
  refine (graphOf_any p [a] at' ab _ ct cb _ _ (hT.gr0 (hg1 _ _)) (hB.gr0 (hg1 _ _)) (inAt_one _ _ _) hs hc (by simp)).mono ?_
  rintro e w1 ⟨hg, hif⟩
  have hG1 : Gr w w1 none := (hg1 _ _).trans0 hg
  clear hg
  rw [graphOk_one] at hif
  rcases one_cases p a with ⟨j, rfl, hj, hpp, h2⟩ | ⟨_, h2⟩
  · rw [h2, if_pos rfl] at hif
    obtain ⟨gb, rfl, hgb, hGA⟩ := hif
    have HO := Lib.hid (show coll (fun k => leads (pts p) j k) (pts p).length = pathsFrom p j by rw [pathsFrom_in h2, hpp])
    rw [hpp] at hj hml
    clear h2 hpp
    go_wp2_with fail
    refine (from_any p gb j _ hGA (by omega) hj).mono ?_
    rintro e w2 ⟨gf, f, rfl, hF, hfl, hr, hg2, hgf⟩
    go_wp2_with fail
    refine (indices_any gf (pts p).length _ (fun k => leads (pts p) j k) _ (fun k hk => Marked.leads hF hfl hr hk) (by omega)).mono ?_
    rw [HO.out]
    intro e w3 hh
    have hhh := hh.after (hG1.trans0 hg2)
    clear hF hr hfl
    obtain ⟨a3, c3, rfl, -⟩ := hh
    have HH := Lib.hid hhh
    clear hhh
    go_wp2_with fail
    go_ret
    exact HH.out
  · rw [h2, if_neg (by simp)] at hif
    subst hif
    have HO := Lib.hid (pathsFrom_out h2)
    clear h2
    go_wp2_with fail
    go_ret
    rw [HO.out]
    exact HandI.nil _ _ hG1
set_option maxRecDepth 100000 in
set_option maxHeartbeats 1000000 in
theorem implPathsTo_any (p : Pr) (a : Int) (at' ab : Option Addr) (ct cb : Nat) (w : World) (hT : InAt w Any p.types at') (hB : SlAt w Any p.body ab) (hs : p.types.length ≤ 1048576) (hc : p.body.length ≤ 1048576) :
    Calls Try.prog 19 #[.agg #[.slice at' p.types.length ct, .slice ab p.body.length cb], .int .i64 a] w (HandI (pathsTo p a) w) := by
  have hg1 : ∀ o o', Gr w ((w.alloc o).alloc o') none := fun o o' => ((Gr.refl _ _).alloc _).alloc _
  have hml := ptsOf_le p
  go_enter Try.func19, Try.ntmps19
  go_wp2_with fail
  refine (graphOf_any p [a] at' ab _ ct cb _ _ (hT.gr0 (hg1 _ _)) (hB.gr0 (hg1 _ _)) (inAt_one _ _ _) hs hc (by simp)).mono ?_
  rintro e w1 ⟨hg, hif⟩
  have hG1 : Gr w w1 none := (hg1 _ _).trans0 hg
  clear hg
  rw [graphOk_one] at hif
  rcases one_cases p a with ⟨j, rfl, hj, hpp, h2⟩ | ⟨_, h2⟩
  · rw [h2, if_pos rfl] at hif
    obtain ⟨gb, rfl, hgb, hGA⟩ := hif
    have HO := Lib.hid (show pathsTo p j = coll (fun k => leads (pts p) k j) (pts p).length by rw [pathsTo_in h2, hpp])
    rw [hpp] at hj hml
    clear h2 hpp
    have HG := Lib.hid hGA
    obtain ⟨L, a3, n3, a4, n4, al, cl, hL, d0, d1, d2, hr1, hr2, hr3⟩ := hGA
    subst hL
    clear d0 d1 hr1 hr2 hr3
    have hC0 : Coll w1 w.heap.size w1.heap.size (fun k => leads (pts p) k j) 0 none 0 0 := Coll.nil _ hG1.size _
    go_wp2_with fail
    go_loopw [7, 23] (fun v i wr => ∃ (k n cap : Nat) (ao : Option Addr), k ≤ (pts p).length ∧ i = .int .i64 k ∧ v = .slice ao n cap ∧ Coll wr w.heap.size w1.heap.size (fun k => leads (pts p) k j) k ao n cap ∧ Gr w1 wr none) (fun _ i _ => (pts p).length - (intOf i).toNat)
    case atStart => exact ⟨0, 0, 0, _, Nat.zero_le _, rfl, rfl, hC0, Gr.refl _ _⟩
    case round =>
      obtain ⟨k, n, cap, ao, hkl, rfl, rfl, hCo, hgr⟩ := hrel
      have hnk := hCo.le
      have HCo := Lib.hid hCo
      clear hCo hC0 d2
      by_cases hlt : k < (pts p).length
      · go_wp2_with fail
        refine (from_any p gb k _ (HG.out.gr hgr) (by omega) hlt).mono ?_
        rintro e w2 ⟨gf, f, rfl, hF, hfl, hr, hg2, hgf⟩
        have hck := Marked.leads hF hfl hr hj
        have hgr2 : Gr w1 w2 none := hgr.trans0 hg2
        have HCo2 := Lib.hid (HCo.out.gr hg2)
        clear hF hfl hr hg2
        cases hd : leads (pts p) k j with
        | true =>
          have HD := Lib.hid hd
          rw [hd] at hck
          clear hd
          go_wp2_with (at_builtin; refine app_c w2 _ rfl (.tmp 32) (.tmp 34) rfl w.heap.size w1.heap.size ao cap n _ k rfl HCo2.out ((Gr.refl _ _).alloc _) HD.out w2.heap.size 1 rfl (cell_of_row _ _ _ _ _ _ (heap1_0 _ _)) (by omega) hgr2.size ?_; rintro g cap' w4 hC4 hg4)
          go_roundw
          case rel => exact ⟨k + 1, n + 1, cap', _, by omega, by go_num, rfl, hC4, hg4 _ (hgr2.alloc _) (Nat.le_refl _)⟩
          case measure => simp [intOf]; omega
        | false =>
          have HD := Lib.hid hd
          rw [hd] at hck
          clear hd
          go_wp2_with fail
          go_roundw
          case rel => exact ⟨k + 1, n, cap, ao, by omega, by go_num, rfl, HCo2.out.no HD.out, hgr2⟩
          case measure => simp [intOf]; omega
      · obtain rfl : k = (pts p).length := by omega
        go_wp2_with fail
        go_ret
        exact HCo.out.hand HO.out (hG1.trans0 hgr)
  · rw [h2, if_neg (by simp)] at hif
    subst hif
    have HO := Lib.hid (pathsTo_out h2)
    clear h2
    go_wp2_with fail
    go_ret
    rw [HO.out]
    exact HandI.nil _ _ hG1
end Go.Proofs.Ytnckihdmmdpjpaa
