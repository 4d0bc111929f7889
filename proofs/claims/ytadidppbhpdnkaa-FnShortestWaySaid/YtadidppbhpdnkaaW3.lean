/- Runs: walks of RunPath, in the program and in the reference: both hand back the same. -/
import Derived.Test.YtadidppbhpdnkaaW2

import Derived.Deep.RegionWith

import Derived.BigQuiet

namespace Go.Proofs.Ytadidppbhpdnkaa

open Go.RowKit

theorem and_one (n : Int) : bits .and .i64 n 1 = n % 2 := by
  have h1 : (BitVec.ofInt 64 1).toNat = 2 ^ 1 - 1 := by decide
  have key : (BitVec.ofInt 64 n &&& BitVec.ofInt 64 1).toNat = (n % ((2 ^ 64 : Nat) : Int)).toNat % 2 ^ 1 := by
    rw [BitVec.toNat_and, BitVec.toNat_ofInt, h1, Nat.and_two_pow_sub_one_eq_mod]
  show IntKind.i64.wrap ((BitVec.ofInt 64 n &&& BitVec.ofInt 64 1).toNat : Nat) = n % 2
  rw [key, IntKind.wrap_i64]
  omega
def lenN : Value → Nat
  | .slice _ n _ => n
  | _ => 0
/-- A run that has come to the point k, with the choices cs left: R are its points so far; T: what it hands back. -/
def RunAt (M : List Pt) (m : Nat) (T : List Nat × Bool) (R : List Nat) (n k : Nat) (cs : List Int) : Prop :=
  R.length = n ∧ k < M.length ∧ ((n ≤ m ∧ (R ++ (runF M (m - n) k cs).1, (runF M (m - n) k cs).2) = T) ∨ (n = m + 1 ∧ (R.take m, false) = T))
theorem RunAt.start {M : List Pt} {m k : Nat} {cs : List Int} (h : k < M.length) : RunAt M m (runF M m k cs) [] 0 k cs := ⟨rfl, h, .inl ⟨Nat.zero_le _, by simp⟩⟩
theorem RunAt.last {M : List Pt} {m : Nat} {T : List Nat × Bool} {R : List Nat} {n k : Nat} {cs : List Int} (h : RunAt M m T R n k cs) (hn : n ≤ m) (ho : (ptAt M k).op = 11) : T = (R ++ [k], true) := by
  obtain ⟨_, _, h3⟩ := h
  rcases h3 with ⟨_, h4⟩ | ⟨h4, _⟩
  · rw [runF_end ho] at h4; exact h4.symm
  · omega
theorem RunAt.full {M : List Pt} {m : Nat} {T : List Nat × Bool} {R : List Nat} {n k : Nat} {cs : List Int} (h : RunAt M m T R n k cs) (hn : ¬ n ≤ m) : T = (R.take m, false) := by
  obtain ⟨_, _, h3⟩ := h
  rcases h3 with ⟨h4, _⟩ | ⟨_, h4⟩
  · exact absurd h4 hn
  · exact h4.symm
theorem RunAt.cut {M : List Pt} {m : Nat} {T : List Nat × Bool} {R : List Nat} {k : Nat} {cs : List Int} (h : RunAt M m T R m k cs) (ho : (ptAt M k).op ≠ 11) : T = (R, false) := by
  obtain ⟨_, _, h3⟩ := h
  rcases h3 with ⟨_, h4⟩ | ⟨h4, _⟩
  · rw [Nat.sub_self, runF_zero ho] at h4; simpa using h4.symm
  · omega
theorem RunAt.step {p : Pr} {m : Nat} {T : List Nat × Bool} {R : List Nat} {n k : Nat} {cs : List Int} (h : RunAt (ptsOf p) m T R n k cs) (hv : validP p = true) (hn : n ≤ m) (ho : (ptAt (ptsOf p) k).op ≠ 11) : RunAt (ptsOf p) m T (R ++ [k]) (n + 1) (goOn (ptAt (ptsOf p) k) cs).1 (goOn (ptAt (ptsOf p) k) cs).2 := by
  obtain ⟨h1, h2, h3⟩ := h
  refine ⟨by simp [h1], goOn_lt hv h2 ho cs, ?_⟩
  rcases h3 with ⟨_, h4⟩ | ⟨h4, _⟩
  · by_cases e : n = m
    · subst e
      rw [Nat.sub_self, runF_zero ho] at h4
      refine .inr ⟨rfl, ?_⟩
      rw [← h4, ← h1]
      simp
    · refine .inl ⟨by omega, ?_⟩
      rw [show m - n = (m - (n + 1)) + 1 from by omega, runF_on ho] at h4
      rw [← h4]
      simp
  · omega
theorem goOn_one {q : Pt} {cs : List Int} {x : Nat} (h : q.next.length ≠ 2) (hx : q.next[0]? = some x) : goOn q cs = (x, cs) := by
  unfold goOn
  match hq : q.next, h with
  | [], _ => rw [hq] at hx; simp at hx
  | [a], _ => rw [hq] at hx; simp at hx; simp [hx]
  | a :: b :: c :: r, _ => rw [hq] at hx; simp at hx; simp [hx]
theorem goOn_two {q : Pt} {a b : Nat} (h : q.next = [a, b]) (cs : List Int) : goOn q cs = match cs with | [] => (b, []) | c :: r => (if c % 2 = 0 then a else b, r) := by
  unfold goOn; rw [h]; cases cs <;> rfl
theorem next_two {q : Pt} (h : q.next.length = 2) : ∃ a b, q.next = [a, b] := by
  match hq : q.next, h with
  | [a, b], _ => exact ⟨a, b, rfl⟩

theorem graphOk_nil (p : Pr) : graphOk p [] = validP p := by unfold graphOk; cases validP p <;> rfl
theorem HandI.after' {l : List Int} {w0 w w' : World} {e : Ending} (h : HandI l w e w') (hg : Gr w0 w none) : HandI l w0 e w' := by
  obtain ⟨a, c, he, h1, h2, h3, h4⟩ := h
  exact ⟨a, c, he, h1, fun g hgo => ⟨Nat.le_trans hg.size (h2 g hgo).1, (h2 g hgo).2⟩, h3, hg.trans0 h4⟩
/-- What a run hands back, somewhere. -/
def RunOut (T : List Nat × Bool) (w : World) (e : Ending) (w' : World) : Prop :=
  ∃ (a : Option Addr) (c : Nat), e = .returned (.tuple #[.slice a T.1.length c, .bool T.2]) ∧ InAt w' Any (zs T.1) a ∧ Gr w w' none
set_option maxRecDepth 100000 in
set_option maxHeartbeats 4000000 in
theorem run_any (p : Pr) (gb : Nat) (cs : List Int) (ac : Option Addr) (cc m : Nat) (w : World) (hGA : GraphAt w p gb) (hv : validP p = true) (hC : InAt w Any cs ac) (hcc : cs.length ≤ cc) (hcl : cs.length ≤ 1048576) (hm : m ≤ 1000) :
    Calls Try.prog 57 #[.pointer (some ⟨gb, 0, none⟩), .slice ac cs.length cc, .int .i64 m] w (RunOut (runF (ptsOf p) m 0 cs) w) := by
  have hml := ptsOf_le p
  have hpos := pts_pos hv
  have hp := ptsOf_pts hv
  have hok := ptsOf_ok p
  have HOK := Lib.hid hok
  have HV := Lib.hid hv
  clear hok hv
  obtain ⟨L, a3, n3, a4, n4, ao, co, hLp, d0, d1, d2, hr1, hr2, hP⟩ := hGA
  rw [← hp] at hLp
  have HL := Lib.hid hLp
  rw [← hLp] at hml hpos
  have hgb : gb < w.heap.size := lt_of_cell d2
  obtain ⟨T, hT⟩ : ∃ T, runF (ptsOf p) m 0 cs = T := ⟨_, rfl⟩
  have hst : RunAt L m T [] 0 0 cs := by have := RunAt.start (M := ptsOf p) (m := m) (k := 0) (cs := cs) (by rw [← hLp]; exact hpos); rw [hT] at this; rw [hLp]; exact this
  have HT := Lib.hid hT
  rw [hT]
  have HP := Lib.hid hP
  clear hp hLp d0 d1 hr1 hr2 hT hP
  have hL0 : Lst w w.heap.size w.heap.size [] none 0 0 := Lst.nil _ (Nat.le_refl _)
  go_enter Try.func57, Try.ntmps57
  go_wp2_with fail
  go_loopw [1, 8, 9] (fun c v i wr => ∃ (R : List Nat) (n cap k cc' : Nat) (ao' ac' : Option Addr) (cs' : List Int), c = .slice ac' cs'.length cc' ∧ v = .slice ao' n cap ∧ i = .int .i64 k ∧ InAt w Any cs' ac' ∧ cs'.length ≤ cc' ∧ cs'.length ≤ 1048576 ∧ Lst wr w.heap.size w.heap.size (zs R) ao' n cap ∧ RunAt L m T R n k cs' ∧ Gr w wr none) (fun _ v _ _ => m + 2 - lenN v)
  case atStart => exact ⟨[], 0, 0, 0, cc, none, ac, cs, rfl, rfl, rfl, hC, hcc, hcl, hL0, hst, Gr.refl _ _⟩
  case round =>
    obtain ⟨R, n, cap, k, cc', ao', ac', cs', rfl, rfl, rfl, hC', hcc', hcl', hLst, hR, hgr⟩ := hrel
    have hkl := hR.2.1
    have hRn := hR.1
    have hcap := hLst.cap
    have HR := Lib.hid hR
    have HLst := Lib.hid hLst
    have HC := Lib.hid hC'
    clear hL0 hst hC hR hLst hC'
    by_cases hn : n ≤ m
    · go_upto_region 5 with (at_builtin; refine app_l wr _ rfl (.tmp 15) (.tmp 17) rfl w.heap.size w.heap.size ao' cap n _ k rfl HLst.out ((Gr.refl _ _).alloc _) wr.heap.size 1 rfl (cell_of_row _ _ _ _ _ _ (heap1_0 _ _)) (by omega) hgr.size ?_; rintro g cap2 w4 hL4 hg4)
      have hG4 : Gr w w4 none := hg4 _ (hgr.alloc _) (Nat.le_refl _)
      have HL4 := Lib.hid hL4
      have HC4 := Lib.hid (HC.out.gr0 hG4)
      have e2 := hG4.cell d2 (by simp)
      obtain ⟨b1, o1, rfl, hpt⟩ := (HP.out.gr hG4) k hkl
      obtain ⟨q, hq⟩ : ∃ q, L[k] = q := ⟨_, rfl⟩
      rw [hq] at hpt
      have hqa : ptAt (ptsOf p) k = q := by rw [← HL.out, ptAt_get hkl, hq]
      have HQA := Lib.hid hqa
      have hnx : q.next.length ≤ 2 := by have := (HOK.out k (by rw [← HL.out]; exact hkl)).1; rw [← ptAt_next, hqa] at this; exact this
      have hfo := ptAt_form HV.out (k := k) (by rw [← HL.out]; exact hkl)
      rw [hqa] at hfo
      have HFO := Lib.hid hfo
      have HG4 := Lib.hid hG4
      obtain ⟨an, cn, c0, c1, c2, c3, c4, cI, hcn⟩ := hpt
      have HCI := Lib.hid cI
      clear hq hqa hfo hL4 hg4 hgr HLst cI d2
      by_cases hop : q.op = 11
      · have hop' : (q.op == 11) = true := by rw [hop]; rfl
        have hTT := (show RunAt (ptsOf p) m T R n k cs' from by rw [← HL.out]; exact HR.out).last hn (by rw [HQA.out]; exact hop)
        have HTT := Lib.hid hTT
        clear hop hTT hG4
        go_wp2_with fail
        go_ret2
        refine ⟨some ⟨g, 0, none⟩, cap2, by rw [HTT.out]; simp [hRn], ?_, HG4.out.alloc _⟩
        rw [HTT.out, zs_app]
        exact (HL4.out.ints).gr0 ((Gr.refl _ _).alloc _)
      · have hop' : (q.op == 11) = false := beq_eq_false_iff_ne.2 hop
        have HST := Lib.hid ((show RunAt (ptsOf p) m T R n k cs' from by rw [← HL.out]; exact HR.out).step HV.out hn (by rw [HQA.out]; exact hop))
        have hne : q.next ≠ [] := by
          rcases HFO.out with ⟨h1, _⟩ | ⟨_, _, h3⟩
          · exact absurd h1 hop
          · exact h3.2.2.1
        clear hop hG4
        go_wp2_with fail
        refine (isChoice_any q.op q.x q.y q.n an q.next.length cn _).mono ?_
        rintro e w5 ⟨rfl, hg5⟩
        have HG5 := Lib.hid ((HG4.out.alloc (.cells #[.int .i64 q.op, .int .i64 q.x, .int .i64 q.y, .int .i64 q.n, .slice an q.next.length cn] 44)).trans0 hg5)
        have HA5 := Lib.hid (show Gr w4 w5 none from ((Gr.refl _ _).alloc _).trans0 hg5)
        have f4 : w5.cell? ⟨w4.heap.size, 4, none⟩ = some (.slice an q.next.length cn) := hg5.cell (cell_of_row _ _ _ _ _ _ (heap1_0 _ _)) (by simp)
        clear hg5 c0 c1 c2 c3 c4
        by_cases h2 : q.next.length = 2
        · obtain ⟨x0, x1, hxx⟩ := next_two h2
          have h2' : ((q.next.length : Int) == 2) = true := by rw [h2]; rfl
          rw [h2] at f4 hcn
          obtain ⟨b5, o5, rfl, -, g0⟩ := (HCI.out.gr0 HA5.out).at (i := 0) (by rw [hxx]; simp [zs])
          obtain ⟨b6, o6, eb, -, g1⟩ := (HCI.out.gr0 HA5.out).at (i := 1) (by rw [hxx]; simp [zs])
          cases eb
          replace g0 : w5.cell? ⟨b5, o5, none⟩ = some (.int .i64 (x0 : Int)) := by simpa [hxx, zs] using g0
          replace g1 : w5.cell? ⟨b5, o5 + 1, none⟩ = some (.int .i64 (x1 : Int)) := by simpa [hxx, zs] using g1
          have HGO := Lib.hid (goOn_two hxx cs')
          clear h2 hxx hne
          cases cs' with
          | nil =>
            have HGN := Lib.hid (show goOn (ptAt (ptsOf p) k) [] = (x1, []) from by rw [HQA.out, HGO.out])
            clear HGO
            go_wp2_with fail
            go_roundw
            case rel => exact ⟨R ++ [k], n + 1, cap2, x1, cc', some ⟨g, 0, none⟩, ac', [], rfl, rfl, rfl, by simp [InAt], by simp, by simp, by rw [zs_app]; exact HL4.out.gr HA5.out, by have := HST.out; rw [HGN.out, ← HL.out] at this; exact this, HG5.out⟩
            case measure => simp [lenN]; omega
          | cons c r =>
            obtain ⟨b7, o7, rfl, -, ec⟩ := (HC4.out.gr0 HA5.out).at (i := 0) (by simp)
            replace ec : w5.cell? ⟨b7, o7, none⟩ = some (.int .i64 c) := by simpa using ec
            have HRR := Lib.hid (show InAt w Any r (some ⟨b7, o7 + 1, none⟩) from by have h9 := HC.out; simp only [InAt] at h9; obtain ⟨b, off, e, _, _, h3⟩ := h9; cases e; exact h3)
            have HGN := Lib.hid (show goOn (ptAt (ptsOf p) k) (c :: r) = (if c % 2 = 0 then x0 else x1, r) from by rw [HQA.out, HGO.out])
            have hlr : r.length + 1 ≤ cc' := by simpa using hcc'
            have hlr2 : r.length + 1 ≤ 1048576 := by simpa using hcl'
            have hba := and_one c
            clear HGO HC4 hcc' hcl'
            have hpar : c % 2 = 0 ∨ c % 2 = 1 := by omega
            rcases hpar with h0 | h0
            all_goals
              rw [h0] at hba
              have HGM := Lib.hid (show goOn (ptAt (ptsOf p) k) (c :: r) = ((if c % 2 = 0 then x0 else x1), r) from HGN.out)
              have HH0 := Lib.hid h0
              clear HGN h0
              rw [List.length_cons]
              by_cases hc1 : cc' = 1
              · subst hc1
                have hr0 : r.length = 0 := by omega
                go_upto_region 12 with fail
                go_quiet (fail)
                go_wp2_with fail
                go_roundw
                case rel => exact ⟨R ++ [k], n + 1, cap2, _, 1 - 1, some ⟨g, 0, none⟩, some ⟨b7, o7, none⟩, r, by rw [hr0], rfl, rfl, by rw [List.length_eq_zero_iff.1 hr0]; simp [InAt], by omega, by omega, by rw [zs_app]; exact HL4.out.gr (HA5.out.drewN _), by have := HST.out; rw [HGM.out, ← HL.out] at this; simpa [HH0.out] using this, HG5.out.drewN _⟩
                case measure => simp [lenN]; omega
              · go_upto_region 12 with fail
                go_quiet (fail)
                go_wp2_with fail
                go_roundw
                case rel => exact ⟨R ++ [k], n + 1, cap2, _, cc' - 1, some ⟨g, 0, none⟩, _, r, rfl, rfl, rfl, HRR.out, by omega, by omega, by rw [zs_app]; exact HL4.out.gr (HA5.out.drewN _), by have := HST.out; rw [HGM.out, ← HL.out] at this; simpa [HH0.out] using this, HG5.out.drewN _⟩
                case measure => simp [lenN]; omega
        · obtain ⟨x, hx⟩ : ∃ x, q.next[0]? = some x := by
            cases hqn : q.next with
            | nil => exact absurd hqn hne
            | cons x r => exact ⟨x, rfl⟩
          have h2' : ((q.next.length : Int) == 2) = false := beq_eq_false_iff_ne.2 (by omega)
          have hpl : 0 < q.next.length := List.length_pos_iff.2 hne
          obtain ⟨b5, o5, rfl, -, g0⟩ := (HCI.out.gr0 HA5.out).at (i := 0) (by simpa [zs] using hpl)
          rw [zs_get] at g0
          have hx0 : q.next[0] = x := by rw [List.getElem?_eq_getElem hpl] at hx; simpa using hx
          rw [hx0] at g0
          replace g0 : w5.cell? ⟨b5, o5, none⟩ = some (.int .i64 (x : Int)) := by simpa using g0
          have HGN := Lib.hid (show goOn (ptAt (ptsOf p) k) cs' = (x, cs') from by rw [HQA.out]; exact goOn_one h2 hx)
          clear hx hx0 h2 hne
          go_wp2_with fail
          go_roundw
          case rel => exact ⟨R ++ [k], n + 1, cap2, x, cc', some ⟨g, 0, none⟩, ac', cs', rfl, rfl, rfl, HC.out, hcc', hcl', by rw [zs_app]; exact HL4.out.gr HA5.out, by have := HST.out; rw [HGN.out, ← HL.out] at this; exact this, HG5.out⟩
          case measure => simp [lenN]; omega
    · have hTT := (show RunAt L m T R n k cs' from HR.out).full hn
      have hnm : n = m + 1 := by rcases HR.out.2.2 with ⟨h1, _⟩ | ⟨h1, _⟩; exact absurd h1 hn; exact h1
      have hRl : (R.take m).length = m := by rw [List.length_take]; omega
      subst hTT
      go_wp2_with fail
      go_ret2
      exact ⟨ao', cap, by simp [hRl], by simp only [zs_take]; exact HLst.out.ints.pre m, hgr⟩

set_option maxRecDepth 100000 in
set_option maxHeartbeats 2000000 in
theorem implRunPath_any (p : Pr) (cs : List Int) (most : Int) (at' ab ac : Option Addr) (ct cb cc : Nat) (w : World) (hT : InAt w Any p.types at') (hB : SlAt w Any p.body ab) (hs : p.types.length ≤ 1048576) (hc : p.body.length ≤ 1048576) (hC : InAt w Any cs ac) (hcc : cs.length ≤ cc) (hcl : cs.length ≤ 1048576) :
    Calls Try.prog 20 #[.agg #[.slice at' p.types.length ct, .slice ab p.body.length cb], .slice ac cs.length cc, .int .i64 most] w (HandIOk (zs (runOf p cs most).1) (runOf p cs most).2 w) := by
  have hg1 : ∀ o, Gr w (w.alloc o) none := fun o => (Gr.refl _ _).alloc _
  go_enter Try.func20, Try.ntmps20
  go_wp2_with fail
  refine (graphOf_any p [] at' ab none ct cb 0 _ (hT.gr0 (hg1 _)) (hB.gr0 (hg1 _)) (by simp [InAt]) hs hc (by simp)).mono ?_
  rintro e w1 ⟨hg, hif⟩
  have hG1 : Gr w w1 none := (hg1 _).trans0 hg
  clear hg
  rw [graphOk_nil] at hif
  cases hv : validP p with
  | true =>
    rw [hv, if_pos rfl] at hif
    obtain ⟨gb, rfl, hgb, hGA⟩ := hif
    have HV := Lib.hid hv
    clear hv
    go_wp2_with fail
    refine (within_any most 0 1000 _).mono ?_
    rintro e w2 ⟨rfl, rfl⟩
    cases hw : within most 0 1000 with
    | true =>
      obtain ⟨m, rfl⟩ : ∃ m : Nat, most = m := ⟨most.toNat, by unfold within at hw; simp at hw; omega⟩
      have hm : m ≤ 1000 := by unfold within at hw; simp at hw; omega
      have HO := Lib.hid (runOf_in (cs := cs) HV.out hm)
      clear hw
      go_wp2_with fail
      refine (run_any p gb cs ac cc m _ hGA HV.out (hC.gr0 hG1) hcc hcl hm).mono ?_
      rw [← HO.out]
      rintro e w3 ⟨a3, c3, rfl, hI, hg3⟩
      have hlen := runOf_len p cs m
      rw [← zs_length]
      go_wp2_with fail
      refine (clone_any (zs (runOf p cs m).1) a3 c3 _ hI (by rw [zs_length]; omega)).mono ?_
      rintro e w4 ⟨hh, hcap⟩
      have hhh := (hh.after' (hG1.trans0 hg3))
      obtain ⟨a5, c5, rfl, -⟩ := hh
      have HH := Lib.hid hhh
      have HCP := Lib.hid (hcap _ _ _ rfl)
      clear hhh hI hg3 hcap
      go_wp2_with fail
      go_ret2
      exact HH.out.ok _ HCP.out
    | false =>
      have HO := Lib.hid (runOf_out (p := p) (cs := cs) (most := most) (.inr (by unfold within at hw; simp at hw; omega)))
      clear hw
      go_wp2_with fail
      go_ret2
      rw [HO.out]
      exact (HandI.nil _ _ hG1).ok false (Nat.le_refl _)
  | false =>
    rw [hv, if_neg (by simp)] at hif
    subst hif
    have HO := Lib.hid (runOf_out (p := p) (cs := cs) (most := most) (.inl hv))
    clear hv
    go_wp2_with fail
    go_ret2
    rw [HO.out]
    exact (HandI.nil _ _ hG1).ok false (Nat.le_refl _)
set_option maxRecDepth 100000 in
set_option maxHeartbeats 4000000 in
theorem specRunPath_any (p : Pr) (cs : List Int) (most : Int) (at' ab ac : Option Addr) (ct cb cc : Nat) (w : World) (hT : InAt w Any p.types at') (hB : SlAt w Any p.body ab) (hs : p.types.length ≤ 1048576) (hc : St.count p.body ≤ 1048576) (hC : InAt w Any cs ac) (hcl : cs.length ≤ 1048576) :
    Calls Try.prog 30 #[.agg #[.slice at' p.types.length ct, .slice ab p.body.length cb], .slice ac cs.length cc, .int .i64 most] w (HandIOk (zs (runOf p cs most).1) (runOf p cs most).2 w) := by
  have hlc := count_length p.body
  have hg1 : ∀ o o', Gr w ((w.alloc o).alloc o') none := fun o o' => ((Gr.refl _ _).alloc _).alloc _
  have hml := ptsOf_le p
  go_enter Try.func30, Try.ntmps30
  go_wp2_with fail
  refine (specPointsOf_any p at' ab ct cb _ (hT.gr0 (hg1 _ _)) (hB.gr0 (hg1 _ _)) hs hc).mono ?_
  rintro e w1 ⟨M, am, c, hM, rfl, hown, hg⟩
  have HM := Lib.hid hM
  rw [← hM] at hml
  have hG1 : Gr w w1 none := (hg1 _ _).trans0 hg
  have hE : w1.heap[w.heap.size + 1]? = some (.cells #[] 3 (0, 0)) := (hg.block _ (by simp) (by simp)).trans (heap2_1 _ _ _)
  have HE := Lib.hid hE
  have HR := Lib.hid hown.read
  have HZ := Lib.hid (show HandI [] w (.returned (.slice (some ⟨w.heap.size + 1, 0, none⟩) 0 0)) w1 from HandI.own (l := []) rfl (own_empty (by omega) HE.out) hG1)
  clear hg hE hown hM
  cases hv : validP p with
  | false =>
    have hM0 : (M.length : Int) = 0 := by rw [HM.out]; unfold ptsOf; rw [hv]; rfl
    have HO := Lib.hid (runOf_out (p := p) (cs := cs) (most := most) (.inl hv))
    clear hv
    go_wp2_with fail
    go_ret2
    rw [HO.out]
    exact HZ.out.ok false (Nat.le_refl _)
  | true =>
    have hpos : 0 < M.length := by rw [HM.out]; exact pts_pos hv
    have hpos' : ((M.length : Int) == 0) = false := beq_eq_false_iff_ne.2 (by omega)
    by_cases hrange : 0 ≤ most ∧ most ≤ 1000
    · obtain ⟨m, rfl⟩ : ∃ m : Nat, most = m := ⟨most.toNat, by omega⟩
      have hm : m ≤ 1000 := by omega
      have HO := Lib.hid (runOf_in (cs := cs) hv hm)
      have HV := Lib.hid hv
      have hd1 : decide ((m : Int) < 0) = false := decide_eq_false (by omega)
      have hd2 : decide (1000 < (m : Int)) = false := decide_eq_false (by omega)
      obtain ⟨T, hTT⟩ : ∃ T, runF (ptsOf p) m 0 cs = T := ⟨_, rfl⟩
      have HT := Lib.hid hTT
      have hst : RunAt M m T [] 0 0 (cs.drop 0) := by have := RunAt.start (M := ptsOf p) (m := m) (k := 0) (cs := cs) (by rw [← HM.out]; exact hpos); rw [hTT] at this; rw [HM.out]; exact this
      have hL0 : Lst w1 w.heap.size w1.heap.size [] (some ⟨w.heap.size + 1, 0, none⟩) 0 0 := Lst.empty hG1.size (by omega) HE.out
      clear hv hrange hTT
      go_wp2_with fail
      go_loopw [8, 10, 11] (fun v i u wr => ∃ (R : List Nat) (n cap k j : Nat) (ao' : Option Addr), v = .slice ao' n cap ∧ i = .int .i64 k ∧ u = .int .i64 j ∧ j ≤ n ∧ n ≤ m ∧ Lst wr w.heap.size w1.heap.size (zs R) ao' n cap ∧ RunAt M m T R n k (cs.drop j) ∧ Gr w1 wr none) (fun v _ _ _ => m + 1 - lenN v)
      case atStart => exact ⟨[], 0, 0, 0, 0, _, rfl, rfl, rfl, Nat.le_refl _, Nat.zero_le _, hL0, hst, Gr.refl _ _⟩
      case round =>
        obtain ⟨R, n, cap, k, j, ao', rfl, rfl, rfl, hjn, hnm, hLst, hRA, hgr⟩ := hrel
        have hkl := hRA.2.1
        have hRn := hRA.1
        have HRA := Lib.hid hRA
        have HLst := Lib.hid hLst
        have HG := Lib.hid hgr
        obtain ⟨b1, o1, rfl, hpt⟩ := (HR.out.gr hgr) k hkl
        obtain ⟨q, hq⟩ : ∃ q, M[k] = q := ⟨_, rfl⟩
        rw [hq] at hpt
        have hqa : ptAt (ptsOf p) k = q := by rw [← HM.out, ptAt_get hkl, hq]
        have HQA := Lib.hid hqa
        have hnx : q.next.length ≤ 2 := by have := (ptsOf_ok p k (by rw [← HM.out]; exact hkl)).1; rw [← ptAt_next, hqa] at this; exact this
        have hfo := ptAt_form HV.out (k := k) (by rw [← HM.out]; exact hkl)
        rw [hqa] at hfo
        have HFO := Lib.hid hfo
        obtain ⟨an, cn, c0, -, -, -, c4, cI, hcn⟩ := hpt
        have HCI := Lib.hid cI
        clear hq hqa hfo hLst hRA cI hL0 hst
        by_cases hop : q.op = 11
        · have hop' : (q.op == 11) = true := by rw [hop]; rfl
          have hTT := (show RunAt (ptsOf p) m T R n k (cs.drop j) from by rw [← HM.out]; exact HRA.out).last hnm (by rw [HQA.out]; exact hop)
          have HTT := Lib.hid hTT
          rw [hop] at c0
          clear hop hTT
          go_wp2_with (at_builtin; refine app_l wr _ rfl (.tmp 72) (.tmp 74) rfl w.heap.size w1.heap.size ao' cap n _ k rfl HLst.out ((Gr.refl _ _).alloc _) wr.heap.size 1 rfl (cell_of_row _ _ _ _ _ _ (heap1_0 _ _)) (by omega) hgr.size ?_; rintro g cap2 w4 hL4 hg4)
          go_ret2
          rw [HO.out, HT.out, HTT.out]
          exact (Lst.hand hL4 (by rw [zs_app]; rfl) (hG1.trans0 (hg4 _ (HG.out.alloc _) (Nat.le_refl _)))).ok true hL4.cap
        · have hop' : (q.op == 11) = false := beq_eq_false_iff_ne.2 hop
          by_cases hnm2 : n = m
          · subst hnm2
            have hTT := (show RunAt (ptsOf p) n T R n k (cs.drop j) from by rw [← HM.out]; exact HRA.out).cut (by rw [HQA.out]; exact hop)
            have HTT := Lib.hid hTT
            clear hop hTT
            go_wp2_with fail
            go_ret2
            rw [HO.out, HT.out, HTT.out]
            exact (Lst.hand HLst.out rfl (hG1.trans0 hgr)).ok false HLst.out.cap
          · have hnm' : ((n : Int) == (m : Int)) = false := beq_eq_false_iff_ne.2 (by omega)
            have HST := Lib.hid ((show RunAt (ptsOf p) m T R n k (cs.drop j) from by rw [← HM.out]; exact HRA.out).step HV.out hnm (by rw [HQA.out]; exact hop))
            have hne : q.next ≠ [] := by
              rcases HFO.out with ⟨h1, _⟩ | ⟨_, _, h3⟩
              · exact absurd h1 hop
              · exact h3.2.2.1
            clear hop
            go_upto_region 12 with (at_builtin; refine app_l wr _ rfl (.tmp 39) (.tmp 41) rfl w.heap.size w1.heap.size ao' cap n _ k rfl HLst.out ((Gr.refl _ _).alloc _) wr.heap.size 1 rfl (cell_of_row _ _ _ _ _ _ (heap1_0 _ _)) (by omega) hgr.size ?_; rintro g cap2 w4 hL4 hg4)
            have hG4 : Gr w1 w4 none := hg4 _ (hgr.alloc _) (Nat.le_refl _)
            have HL4 := Lib.hid hL4
            have HG4 := Lib.hid hG4
            obtain ⟨b2, o2, eb, hpt2⟩ := (HR.out.gr hG4) k hkl
            cases eb
            have hqq : M[k] = q := by have := HQA.out; rw [← HM.out, ptAt_get hkl] at this; exact this
            rw [hqq] at hpt2
            obtain ⟨an2, cn2, -, -, -, -, d4, dI, hdn⟩ := hpt2
            have HDI := Lib.hid dI
            clear hL4 hg4 hgr HLst HCI hqq dI c4 c0 hG4
            by_cases h2 : q.next.length = 2
            · obtain ⟨x0, x1, hxx⟩ := next_two h2
              have h2' : ((q.next.length : Int) == 2) = true := by rw [h2]; rfl
              rw [h2] at d4 hdn
              obtain ⟨b5, o5, rfl, -, g0⟩ := HDI.out.at (i := 0) (by rw [hxx]; simp [zs])
              obtain ⟨b6, o6, eb, -, g1⟩ := HDI.out.at (i := 1) (by rw [hxx]; simp [zs])
              cases eb
              replace g0 : w4.cell? ⟨b5, o5, none⟩ = some (.int .i64 (x0 : Int)) := by simpa [hxx, zs] using g0
              replace g1 : w4.cell? ⟨b5, o5 + 1, none⟩ = some (.int .i64 (x1 : Int)) := by simpa [hxx, zs] using g1
              have HGO := Lib.hid (goOn_two hxx (cs.drop j))
              clear h2 hxx hne
              by_cases hj : j < cs.length
              · obtain ⟨b7, o7, rfl, -, ec⟩ := (hC.gr0 (hG1.trans0 HG4.out)).at hj
                obtain ⟨x, hx⟩ : ∃ x, cs[j] = x := ⟨_, rfl⟩
                rw [hx] at ec
                have HGN := Lib.hid (show goOn (ptAt (ptsOf p) k) (cs.drop j) = (if x % 2 = 0 then x0 else x1, cs.drop (j + 1)) from by rw [HQA.out, HGO.out, List.drop_eq_getElem_cons hj, hx])
                clear HGO hx
                by_cases hp2 : x.tmod 2 = 0
                · have hp2' : (x.tmod 2 == 0) = true := by rw [hp2]; rfl
                  have HP2 := Lib.hid (show x % 2 = 0 from by have := Int.tmod_add_mul_tdiv x 2; omega)
                  clear hp2
                  go_wp2_with fail
                  go_roundw
                  case rel => exact ⟨R ++ [k], n + 1, cap2, x0, j + 1, some ⟨g, 0, none⟩, rfl, rfl, by go_num, by omega, by omega, by rw [zs_app]; exact HL4.out, by have := HST.out; rw [HGN.out, ← HM.out] at this; simpa [HP2.out] using this, HG4.out⟩
                  case measure => simp [lenN]; omega
                · have hp2' : (x.tmod 2 == 0) = false := beq_eq_false_iff_ne.2 hp2
                  have HP2 := Lib.hid (show ¬ x % 2 = 0 from fun h => hp2 (by obtain ⟨y, rfl⟩ : ∃ y, x = 2 * y := ⟨x / 2, by omega⟩; exact Int.mul_tmod_right _ _))
                  clear hp2
                  go_wp2_with fail
                  go_roundw
                  case rel => exact ⟨R ++ [k], n + 1, cap2, x1, j + 1, some ⟨g, 0, none⟩, rfl, rfl, by go_num, by omega, by omega, by rw [zs_app]; exact HL4.out, by have := HST.out; rw [HGN.out, ← HM.out] at this; simpa [HP2.out] using this, HG4.out⟩
                  case measure => simp [lenN]; omega
              · have hdr : cs.drop j = [] := List.drop_of_length_le (by omega)
                have HGN := Lib.hid (show goOn (ptAt (ptsOf p) k) (cs.drop j) = (x1, cs.drop (j + 1)) from by rw [HQA.out, HGO.out, hdr, List.drop_of_length_le (by omega)])
                clear HGO hdr
                go_wp2_with fail
                go_roundw
                case rel => exact ⟨R ++ [k], n + 1, cap2, x1, j + 1, some ⟨g, 0, none⟩, rfl, rfl, by go_num, by omega, by omega, by rw [zs_app]; exact HL4.out, by have := HST.out; rw [HGN.out, ← HM.out] at this; exact this, HG4.out⟩
                case measure => simp [lenN]; omega
            · obtain ⟨x, hx⟩ : ∃ x, q.next[0]? = some x := by
                cases hqn : q.next with
                | nil => exact absurd hqn hne
                | cons x r => exact ⟨x, rfl⟩
              have h2' : ((q.next.length : Int) == 2) = false := beq_eq_false_iff_ne.2 (by omega)
              have hpl : 0 < q.next.length := List.length_pos_iff.2 hne
              obtain ⟨b5, o5, rfl, -, g0⟩ := HDI.out.at (i := 0) (by simpa [zs] using hpl)
              rw [zs_get] at g0
              have hx0 : q.next[0] = x := by rw [List.getElem?_eq_getElem hpl] at hx; simpa using hx
              rw [hx0] at g0
              replace g0 : w4.cell? ⟨b5, o5, none⟩ = some (.int .i64 (x : Int)) := by simpa using g0
              have HGN := Lib.hid (show goOn (ptAt (ptsOf p) k) (cs.drop j) = (x, cs.drop j) from by rw [HQA.out]; exact goOn_one h2 hx)
              clear hx hx0 h2 hne
              go_wp2_with fail
              go_roundw
              case rel => exact ⟨R ++ [k], n + 1, cap2, x, j, some ⟨g, 0, none⟩, rfl, rfl, rfl, by omega, by omega, by rw [zs_app]; exact HL4.out, by have := HST.out; rw [HGN.out, ← HM.out] at this; exact this, HG4.out⟩
              case measure => simp [lenN]; omega
    · have HO := Lib.hid (runOf_out (p := p) (cs := cs) (most := most) (.inr (by omega)))
      have hcs : most < 0 ∨ 1000 < most := by omega
      clear hv hrange
      rcases hcs with hcs | hcs
      · have hd1 : decide (most < 0) = true := decide_eq_true hcs
        go_wp2_with fail
        go_ret2
        rw [HO.out]
        exact HZ.out.ok false (Nat.le_refl _)
      · have hd1 : decide (most < 0) = false := decide_eq_false (by omega)
        have hd2 : decide (1000 < most) = true := decide_eq_true hcs
        go_wp2_with fail
        go_ret2
        rw [HO.out]
        exact HZ.out.ok false (Nat.le_refl _)
end Go.Proofs.Ytadidppbhpdnkaa
