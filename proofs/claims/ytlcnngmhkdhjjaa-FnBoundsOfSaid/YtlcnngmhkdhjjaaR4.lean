/- Reaching in the reference: the walk of l12Reach. -/
/- Reaching in the program: the walk of around. -/
import Derived.Test.YtlcnngmhkdhjjaaR2

import Derived.Deep.LoopGhost

import Derived.Deep.DeepCutAuto

namespace Go.Proofs.Ytlcnngmhkdhjjaa

open Go.RowKit

/-- A list of marks is handed back: those that can be reached. -/
def Marked (L : List Pt) (S : List Nat) (x : Int) (w : World) (e : Ending) (w' : World) : Prop :=
  ∃ (gf : Nat) (f : List Bool), e = .returned (.slice (some ⟨gf, 0, none⟩) L.length L.length) ∧ Flags w' gf f ∧ f.length = L.length ∧ (∀ k, f[k]? = some true ↔ Rch L S x k) ∧ Gr w w' none ∧ w.heap.size ≤ gf
theorem zs_app (a b : List Nat) : zs (a ++ b) = zs a ++ zs b := by simp [zs]
theorem que_new (w : World) (base : Nat) (hb : base ≤ w.heap.size) (a : Nat) : Que (w.alloc (.cells #[.int .i64 (a : Int)] 3)) base w.heap.size 0 1 1 (zs [a]) := by
  have h := heap1_0 w (.cells #[.int .i64 (a : Int)] 3)
  refine ⟨hb, by simp, by simp [zs], Nat.le_refl _, fun j hj => ?_, fun j u hu => ?_⟩
  · obtain rfl : j = 0 := by omega
    exact ⟨by rw [cell_of_row _ _ _ _ _ _ h]; rfl, by unfold World.frozen?; rw [h]; rfl⟩
  · have hj : j < 1 := by simpa [ints, zs] using (List.getElem?_eq_some_iff.1 hu).1
    obtain rfl : j = 0 := by omega
    rw [cell_of_row _ _ _ _ _ _ h]
    simpa [ints, zs] using hu

set_option maxRecDepth 100000 in
set_option maxHeartbeats 2000000 in
theorem l12Reach_any (L : List Pt) (ao : Option Addr) (co a : Nat) (x : Int) (w : World) (hP : PtsAt w L ao) (hL : NextOk L) (hl : L.length ≤ 100) (ha : a < L.length) :
    Calls Try.prog 82 #[.slice ao L.length co, .int .i64 a, .int .i64 x] w (Marked L [a] x w) := by
  have hmk := fun w : World => run_make_row' (P := Try.prog) 76 4 (.bool false) 1 Try.underlying76 Binfo rfl .i64 .i64 L.length (by omega) (by omega) w
  go_enter Try.func82, Try.ntmps82
  go_wp2
  have hF0 : Flags ((w.alloc (.cells (madeCells #[.bool false] L.length) 4)).alloc (.cells #[.int .i64 (a : Int)] 3)) w.heap.size (List.replicate L.length false) :=
    (Flags.new w L.length).gr ((Gr.refl _ none).alloc _) (by simp)
  have hQ0 : Que ((w.alloc (.cells (madeCells #[.bool false] L.length) 4)).alloc (.cells #[.int .i64 (a : Int)] 3)) (w.heap.size + 1) (w.heap.size + 1) 0 1 1 (zs [a]) := by
    have := que_new (w.alloc (.cells (madeCells #[.bool false] L.length) 4)) (w.heap.size + 1) (by simp) a
    simpa using this
  have hG0 : Gr w ((w.alloc (.cells (madeCells #[.bool false] L.length) 4)).alloc (.cells #[.int .i64 (a : Int)] 3)) none := ((Gr.refl _ _).alloc _).alloc _
  have hS0 : Srch L [a] x (List.replicate L.length false) [a] := Srch.start (by simpa using ha)
  have hU0 : unmarked (List.replicate L.length false) ≤ L.length := by have := unmarked_le (List.replicate L.length false); simpa using this
  go_loopg [8, 9] (3 * unmarked (List.replicate L.length false) + 1) (fun g s8 _s9 wr => ∃ (f : List Bool) (W : List Nat) (n gq off cap : Nat), g = 3 * unmarked f + n ∧ g ≤ 301 ∧ s8 = .slice (some ⟨gq, off, none⟩) n cap ∧ W.length = n ∧
    Que wr (w.heap.size + 1) gq off n cap (zs W) ∧ Flags wr w.heap.size f ∧ Srch L [a] x f W ∧ Gr w wr none)
  case atStart => exact ⟨_, [a], 1, _, 0, 1, rfl, by omega, rfl, rfl, hQ0, hF0, hS0, hG0⟩
  case round =>
    obtain ⟨f, W, n, gq, off, cap, hg, hg1, rfl, hn, hQ, hF, hS, hG⟩ := hrel
    clear hmk hF0 hQ0 hG0 hS0 hU0
    rcases List.eq_nil_or_concat W with rfl | ⟨W0, k, rfl⟩
    · obtain rfl : n = 0 := by simpa using hn.symm
      go_wp2
      go_ret
      exact ⟨_, f, rfl, hF, hS.1, hS.done, hG, Nat.le_refl _⟩
    · rw [List.concat_eq_append] at hn hQ hS
      obtain ⟨m, hm⟩ : ∃ m, W0.length = m := ⟨_, rfl⟩
      obtain rfl : n = m + 1 := by simp at hn; omega
      clear hn
      have hk : k < L.length := hS.2.1 k (by simp)
      have hS' : Srch L [a] x f (k :: W0) := hS.perm (by intro j; simp [or_comm])
      rw [zs_app] at hQ
      have hQl : wr.cell? ⟨gq, off + m, none⟩ = some (.int .i64 (k : Int)) := by
        have := hQ.cell (j := m) (by simp [zs, hm])
        rw [this]
        simp [zs, hm]
      have hcap : m + 1 ≤ cap := hQ.2.2.2.1
      have hQp : Que wr (w.heap.size + 1) gq off m cap (zs W0) := by
        have := hQ.pop
        rw [zs_length, hm] at this
        exact this
      have hfl : k < f.length := by rw [hS.1]; exact hk
      have hfc := hF.cell hfl
      have hff := hF.free k
      obtain ⟨bk, ek⟩ : ∃ bk, f[k] = bk := ⟨_, rfl⟩
      rw [ek] at hfc
      have ek' : f[k]? = some bk := by rw [List.getElem?_eq_getElem hfl, ek]
      have hmb : m ≤ 301 := by omega
      have HS := Lib.hid hS'
      have HF := Lib.hid hF
      have HE := Lib.hid ek'
      have HQ := Lib.hid hQp
      have HG := Lib.hid hg
      clear hS hS' hF ek ek' hQ hQp hg
      by_cases hkx : (k : Int) = x
      · subst hkx
        go_wp2_with fail
        go_roundg (3 * unmarked f + m)
        case measure => have := HG.out; omega
        case rel => exact ⟨f, W0, m, gq, off, cap, rfl, by have := HG.out; omega, rfl, hm, HQ.out, HF.out, HS.out.drop (.inl rfl), hG⟩
      · cases bk with
        | true =>
          go_wp2_with fail
          go_roundg (3 * unmarked f + m)
          case measure => have := HG.out; omega
          case rel => exact ⟨f, W0, m, gq, off, cap, rfl, by have := HG.out; omega, rfl, hm, HQ.out, HF.out, HS.out.drop (.inr HE.out), hG⟩
        | false =>
          obtain ⟨b, po, rfl, an, cn, -, -, -, -, c4, hin, -⟩ := hP k hk
          replace c4 := hG.cell c4 (by simp)
          obtain ⟨q, eq⟩ : ∃ q, L[k] = q := ⟨_, rfl⟩
          rw [eq] at c4 hin
          have hqn : nextOf L k = q.next := by rw [nextOf_get hk, eq]
          have hql : q.next.length ≤ 2 := by rw [← hqn]; exact (hL k hk).1
          have HQN := Lib.hid hqn
          clear hqn eq
          rw [← zs_length] at c4 hql
          obtain ⟨ns, ens⟩ : ∃ ns, zs q.next = ns := ⟨_, rfl⟩
          rw [ens] at c4 hql hin
          have HN := Lib.hid ens
          clear ens
          have hsg : Gr wr (wr.setCell ⟨w.heap.size, k, none⟩ (.bool true)) (some w.heap.size) := own_set _ _ _ _
          have hsw : Gr w (wr.setCell ⟨w.heap.size, k, none⟩ (.bool true)) none := hG.setNew (Nat.le_refl _) _
          have hQs : Que (wr.setCell ⟨w.heap.size, k, none⟩ (.bool true)) (w.heap.size + 1) gq off m cap (zs W0) := HQ.out.gr hsg (by have := HQ.out.1; simp; omega)
          have his : InAt (wr.setCell ⟨w.heap.size, k, none⟩ (.bool true)) Any ns an := hin.gr0 hsw
          have hFs := (HF.out).set (k := k) true
          have HFS := Lib.hid hFs
          clear hFs
          go_wp2_with (at_builtin; refine app_q (wr.setCell ⟨w.heap.size, k, none⟩ (.bool true)) rfl (.tmp 41) (.tmp 46) rfl (w.heap.size + 1) gq off m cap (zs W0) rfl hQs an cn ns rfl his (by omega) ?_; rintro gq' off' cap' w' hQ' hg')
          have hun := unmarked_set f k HE.out
          have hgg := HG.out
          have hgq := HQ.out.1
          go_roundg (3 * unmarked (f.set k true) + (m + ns.length))
          case measure => omega
          case rel => exact ⟨f.set k true, W0 ++ q.next, m + ns.length, gq', off', cap', rfl, by omega, rfl, by rw [List.length_append, hm, ← HN.out, zs_length], by rw [zs_app, HN.out]; exact hQ', HFS.out.gr hg' (by simp; omega), by rw [← HQN.out]; exact HS.out.mark hL hkx, hsw.trans hg' (fun r hr => .inr (by simp at hr; omega))⟩
end Go.Proofs.Ytlcnngmhkdhjjaa

namespace Go.Proofs.Ytlcnngmhkdhjjaa

open Go.RowKit

set_option maxRecDepth 100000 in
set_option maxHeartbeats 2000000 in
theorem around_any (p : Pr) (gb a : Nat) (x : Int) (w : World) (hGA : GraphAt w p gb) (hl : (pts p).length ≤ 100) (ha : a < (pts p).length) :
    Calls Try.prog 79 #[.pointer (some ⟨gb, 0, none⟩), .int .i64 a, .int .i64 x] w (Marked (pts p) [a] x w) := by
  have hL := pts_next p
  obtain ⟨L, a3, n3, a4, n4, ao, co, hLp, d0, d1, d2, hr1, hr2, hP⟩ := hGA
  rw [← hLp] at hL hl ha ⊢
  have hgb : gb < w.heap.size := lt_of_cell d2
  clear hLp d0 d1 hr1 hr2
  have hmk := fun w : World => run_make_row' (P := Try.prog) 76 4 (.bool false) 1 Try.underlying76 Binfo rfl .i64 .i64 L.length (by omega) (by omega) w
  go_enter Try.func79, Try.ntmps79
  go_wp2
  have hF0 : Flags ((w.alloc (.cells (madeCells #[.bool false] L.length) 4)).alloc (.cells #[.int .i64 (a : Int)] 3)) w.heap.size (List.replicate L.length false) :=
    (Flags.new w L.length).gr ((Gr.refl _ none).alloc _) (by simp)
  have hQ0 : Que ((w.alloc (.cells (madeCells #[.bool false] L.length) 4)).alloc (.cells #[.int .i64 (a : Int)] 3)) (w.heap.size + 1) (w.heap.size + 1) 0 1 1 (zs [a]) := by
    have := que_new (w.alloc (.cells (madeCells #[.bool false] L.length) 4)) (w.heap.size + 1) (by simp) a
    simpa using this
  have hG0 : Gr w ((w.alloc (.cells (madeCells #[.bool false] L.length) 4)).alloc (.cells #[.int .i64 (a : Int)] 3)) none := ((Gr.refl _ _).alloc _).alloc _
  have hS0 : Srch L [a] x (List.replicate L.length false) [a] := Srch.start (by simpa using ha)
  have hU0 : unmarked (List.replicate L.length false) ≤ L.length := by have := unmarked_le (List.replicate L.length false); simpa using this
  go_loopg [8, 9] (3 * unmarked (List.replicate L.length false) + 1) (fun g s8 _s9 wr => ∃ (f : List Bool) (W : List Nat) (n gq off cap : Nat), g = 3 * unmarked f + n ∧ g ≤ 301 ∧ s8 = .slice (some ⟨gq, off, none⟩) n cap ∧ W.length = n ∧
    Que wr (w.heap.size + 1) gq off n cap (zs W) ∧ Flags wr w.heap.size f ∧ Srch L [a] x f W ∧ Gr w wr none)
  case atStart => exact ⟨_, [a], 1, _, 0, 1, rfl, by omega, rfl, rfl, hQ0, hF0, hS0, hG0⟩
  case round =>
    obtain ⟨f, W, n, gq, off, cap, hg, hg1, rfl, hn, hQ, hF, hS, hG⟩ := hrel
    clear hmk hF0 hQ0 hG0 hS0 hU0
    rcases W with _ | ⟨k, W0⟩
    · obtain rfl : n = 0 := by simpa using hn.symm
      go_wp2
      go_ret
      exact ⟨_, f, rfl, hF, hS.1, hS.done, hG, Nat.le_refl _⟩
    · obtain ⟨m, hm⟩ : ∃ m, W0.length = m := ⟨_, rfl⟩
      obtain rfl : n = m + 1 := by simp at hn; omega
      clear hn
      have hk : k < L.length := hS.2.1 k (by simp)
      have hS' := hS
      have hQl : wr.cell? ⟨gq, off, none⟩ = some (.int .i64 (k : Int)) := by
        have := hQ.cell (j := 0) (by simp [zs])
        simpa [zs] using this
      have hcap : m + 1 ≤ cap := hQ.2.2.2.1
      have hQp : Que wr (w.heap.size + 1) gq (off + 1) m (cap - 1) (zs W0) := by
        have hz : zs (k :: W0) = (k : Int) :: zs W0 := rfl
        rw [hz] at hQ
        have := hQ.tail
        rw [zs_length, hm] at this
        exact this
      replace d2 := hG.cell d2 (by simp)
      have hfl : k < f.length := by rw [hS.1]; exact hk
      have hfc := hF.cell hfl
      have hff := hF.free k
      obtain ⟨bk, ek⟩ : ∃ bk, f[k] = bk := ⟨_, rfl⟩
      rw [ek] at hfc
      have ek' : f[k]? = some bk := by rw [List.getElem?_eq_getElem hfl, ek]
      have hmb : m ≤ 301 := by omega
      have HS := Lib.hid hS'
      have HF := Lib.hid hF
      have HE := Lib.hid ek'
      have HQ := Lib.hid hQp
      have HG := Lib.hid hg
      clear hS hS' hF ek ek' hQ hQp hg
      go_upto_region 5 with fail
      go_cut [8] (fun s8 wx => ∃ off1, s8 = .slice (some ⟨gq, off1, none⟩) m (cap - 1) ∧ wr = wx ∧ Que wr (w.heap.size + 1) gq off1 m (cap - 1) (zs W0))
      case first =>
        by_cases hc1 : cap = 1
        · subst hc1
          have hq0 : Que wr (w.heap.size + 1) gq off m (1 - 1) (zs W0) := ⟨HQ.out.1, HQ.out.2.1, HQ.out.2.2.1, HQ.out.2.2.2.1, fun j hj => by omega, fun j u hu => by
            have := (List.getElem?_eq_some_iff.1 hu).1
            have := HQ.out.2.2.1
            rw [ints_length] at *
            omega⟩
          have HQ0 := Lib.hid hq0
          clear hq0
          go_wp2_with fail
          go_meet
          have hm0 : m = 0 := by omega
          subst hm0
          exact ⟨off, rfl, rfl, HQ0.out⟩
        · go_wp2_with fail
          go_meet
          exact ⟨off + 1, rfl, rfl, HQ.out⟩
      case rest =>
      clear HQ hQl
      obtain ⟨off1, rfl, rfl, hQ1⟩ := hcut
      have HQ := Lib.hid hQ1
      clear hQ1
      by_cases hkx : (k : Int) = x
      · subst hkx
        go_wp2_with fail
        go_roundg (3 * unmarked f + m)
        case measure => have := HG.out; omega
        case rel => exact ⟨f, W0, m, gq, off1, cap - 1, rfl, by have := HG.out; omega, rfl, hm, HQ.out, HF.out, HS.out.drop (.inl rfl), hG⟩
      · cases bk with
        | true =>
          go_wp2_with fail
          go_roundg (3 * unmarked f + m)
          case measure => have := HG.out; omega
          case rel => exact ⟨f, W0, m, gq, off1, cap - 1, rfl, by have := HG.out; omega, rfl, hm, HQ.out, HF.out, HS.out.drop (.inr HE.out), hG⟩
        | false =>
          obtain ⟨b, po, rfl, an, cn, -, -, -, -, c4, hin, -⟩ := hP k hk
          replace c4 := hG.cell c4 (by simp)
          obtain ⟨q, eq⟩ : ∃ q, L[k] = q := ⟨_, rfl⟩
          rw [eq] at c4 hin
          have hqn : nextOf L k = q.next := by rw [nextOf_get hk, eq]
          have hql : q.next.length ≤ 2 := by rw [← hqn]; exact (hL k hk).1
          have HQN := Lib.hid hqn
          clear hqn eq
          rw [← zs_length] at c4 hql
          obtain ⟨ns, ens⟩ : ∃ ns, zs q.next = ns := ⟨_, rfl⟩
          rw [ens] at c4 hql hin
          have HN := Lib.hid ens
          clear ens
          have hsg : Gr wr (wr.setCell ⟨w.heap.size, k, none⟩ (.bool true)) (some w.heap.size) := own_set _ _ _ _
          have d2s : (wr.setCell ⟨w.heap.size, k, none⟩ (.bool true)).cell? ⟨gb, 2, none⟩ = some (.slice (some ⟨b, po, none⟩) L.length co) := hsg.cell d2 (by simp; omega)
          have hsw : Gr w (wr.setCell ⟨w.heap.size, k, none⟩ (.bool true)) none := hG.setNew (Nat.le_refl _) _
          have hQs : Que (wr.setCell ⟨w.heap.size, k, none⟩ (.bool true)) (w.heap.size + 1) gq off1 m (cap - 1) (zs W0) := HQ.out.gr hsg (by have := HQ.out.1; simp; omega)
          have his : InAt (wr.setCell ⟨w.heap.size, k, none⟩ (.bool true)) Any ns an := hin.gr0 hsw
          have hFs := (HF.out).set (k := k) true
          have HFS := Lib.hid hFs
          clear hFs
          go_wp2_with (at_builtin; refine app_q (wr.setCell ⟨w.heap.size, k, none⟩ (.bool true)) rfl (.tmp 39) (.tmp 47) rfl (w.heap.size + 1) gq off1 m (cap - 1) (zs W0) rfl hQs an cn ns rfl his (by omega) ?_; rintro gq' off' cap' w' hQ' hg')
          have hun := unmarked_set f k HE.out
          have hgg := HG.out
          have hgq := HQ.out.1
          go_roundg (3 * unmarked (f.set k true) + (m + ns.length))
          case measure => omega
          case rel => exact ⟨f.set k true, W0 ++ q.next, m + ns.length, gq', off', cap', rfl, by omega, rfl, by rw [List.length_append, hm, ← HN.out, zs_length], by rw [zs_app, HN.out]; exact hQ', HFS.out.gr hg' (by simp; omega), by rw [← HQN.out]; exact HS.out.mark hL hkx, hsw.trans hg' (fun r hr => .inr (by simp at hr; omega))⟩
end Go.Proofs.Ytlcnngmhkdhjjaa
