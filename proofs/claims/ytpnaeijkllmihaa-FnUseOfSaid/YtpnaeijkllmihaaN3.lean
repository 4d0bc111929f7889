/- To which points one leads in one step or more: walks of l2From and of from. -/
import Derived.Test.YtpnaeijkllmihaaR6

import Derived.Test.YtpnaeijkllmihaaN2

import Derived.Deep.DeepCutAuto

namespace Go.Proofs.Ytpnaeijkllmihaa

open Go.RowKit

set_option maxRecDepth 100000 in
set_option maxHeartbeats 2000000 in
theorem l2From_any (L : List Pt) (ao : Option Addr) (co a : Nat) (w : World) (hP : PtsAt w L ao) (hL : NextOk L) (hl : L.length ≤ 100) (ha : a < L.length) :
    Calls Try.prog 77 #[.slice ao L.length co, .int .i64 a] w (Marked L (nextOf L a) (-1) w) := by
  have hmk := fun w : World => run_make_row' (P := Try.prog) 66 4 (.bool false) 1 Try.underlying66 Binfo rfl .i64 .i64 L.length (by omega) (by omega) w
  obtain ⟨b0, po0, rfl, an0, cn0, -, -, -, -, c40, hin0, -⟩ := hP a ha
  obtain ⟨q0, eq0⟩ : ∃ q, L[a] = q := ⟨_, rfl⟩
  rw [eq0] at c40 hin0
  have hq0 : nextOf L a = q0.next := by rw [nextOf_get ha, eq0]
  have hl0 : q0.next.length ≤ 2 := by rw [← hq0]; exact (hL a ha).1
  have hS0 : Srch L (nextOf L a) (-1) (List.replicate L.length false) q0.next := by
    have := Srch.start (x := -1) (hL a ha).2
    rw [hq0] at this ⊢
    exact this
  have HQ0 := Lib.hid hq0
  clear eq0 hq0
  rw [← zs_length] at c40 hl0
  obtain ⟨n0, en0⟩ : ∃ n0, zs q0.next = n0 := ⟨_, rfl⟩
  rw [en0] at c40 hl0 hin0
  have hn0 : q0.next.length = n0.length := by rw [← zs_length, en0]
  have HN0 := Lib.hid en0
  have HL0 := Lib.hid hn0
  clear en0 hn0
  have hQe : Que ((w.alloc (.cells (madeCells #[.bool false] L.length) 4)).alloc (.cells #[] 3)) (w.heap.size + 1) (w.heap.size + 1) 0 0 0 [] := by
    refine ⟨Nat.le_refl _, by simp, rfl, Nat.le_refl _, fun j hj => absurd hj (by omega), fun j u hu => by simp [ints] at hu⟩
  have hG0 : Gr w ((w.alloc (.cells (madeCells #[.bool false] L.length) 4)).alloc (.cells #[] 3)) none := ((Gr.refl _ _).alloc _).alloc _
  have hb0 : b0 < w.heap.size := lt_of_cell c40
  have c41 := hG0.cell c40 (by simp)
  have hinA : InAt ((w.alloc (.cells (madeCells #[.bool false] L.length) 4)).alloc (.cells #[] 3)) Any n0 an0 := hin0.gr0 hG0
  have hFA : Flags ((w.alloc (.cells (madeCells #[.bool false] L.length) 4)).alloc (.cells #[] 3)) w.heap.size (List.replicate L.length false) :=
    (Flags.new w L.length).gr ((Gr.refl _ none).alloc _) (by simp)
  have HFA := Lib.hid hFA
  clear hFA
  go_enter Try.func77, Try.ntmps77
  go_wp2_with (at_builtin; refine app_q _ rfl (.tmp 11) (.tmp 16) rfl (w.heap.size + 1) (w.heap.size + 1) 0 0 0 [] rfl hQe an0 cn0 n0 rfl hinA (by omega) ?_; rintro gq0 off0 cap0 w0 hQ0' hg0)
  have hF0 : Flags w0 w.heap.size (List.replicate L.length false) := HFA.out.gr hg0 (by simp)
  have hQ0 : Que w0 (w.heap.size + 1) gq0 off0 n0.length cap0 (zs q0.next) := by rw [HN0.out]; simpa using hQ0'
  have hG0' : Gr w w0 none := hG0.trans hg0 (fun r hr => .inr (by simp at hr; omega))
  have hU0 : unmarked (List.replicate L.length false) ≤ L.length := by have := unmarked_le (List.replicate L.length false); simpa using this
  clear hQe hinA hQ0' hg0 HFA hG0
  go_loopg [6] (3 * unmarked (List.replicate L.length false) + n0.length) (fun g s8 wr => ∃ (f : List Bool) (W : List Nat) (n gq off cap : Nat), g = 3 * unmarked f + n ∧ g ≤ 310 ∧ s8 = .slice (some ⟨gq, off, none⟩) n cap ∧ W.length = n ∧
    Que wr (w.heap.size + 1) gq off n cap (zs W) ∧ Flags wr w.heap.size f ∧ Srch L (nextOf L a) (-1) f W ∧ Gr w wr none)
  case atStart => exact ⟨_, q0.next, n0.length, _, _, _, rfl, by omega, by simp, HL0.out, hQ0, hF0, hS0, hG0'⟩
  case round =>
    obtain ⟨f, W, n, gq, off, cap, hg, hg1, rfl, hn, hQ, hF, hS, hG⟩ := hrel
    clear hmk hF0 hQ0 hG0' hS0 hU0 c40 c41 hin0
    rcases List.eq_nil_or_concat W with rfl | ⟨W0, k, rfl⟩
    · obtain rfl : n = 0 := by simpa using hn.symm
      go_wp2
      go_ret
      exact ⟨_, f, rfl, hF, hS.1, hS.done, hG, Nat.le_refl _⟩
    · rw [List.concat_eq_append] at hn hQ hS
      obtain ⟨m, hm⟩ : ∃ m, W0.length = m := ⟨_, rfl⟩
      obtain rfl : n = m + 1 := by simp at hn; omega
      clear hn
      have hk : k < L.length := hS.2.1 k (by simp)
      have hS' : Srch L (nextOf L a) (-1) f (k :: W0) := hS.perm (by intro j; simp [or_comm])
      rw [zs_app] at hQ
      have hQl : wr.cell? ⟨gq, off + m, none⟩ = some (.int .i64 (k : Int)) := by
        have := hQ.cell (j := m) (by simp [zs, hm])
        rw [this]
        simp [zs, hm]
      have hcap : m + 1 ≤ cap := hQ.2.2.2.1
      have hQp : Que wr (w.heap.size + 1) gq off m cap (zs W0) := by
        have := hQ.pop
        rw [zs_length, hm] at this
        exact this
      have hfl : k < f.length := by rw [hS.1]; exact hk
      have hfc := hF.cell hfl
      have hff := hF.free k
      obtain ⟨bk, ek⟩ : ∃ bk, f[k] = bk := ⟨_, rfl⟩
      rw [ek] at hfc
      have ek' : f[k]? = some bk := by rw [List.getElem?_eq_getElem hfl, ek]
      have hmb : m ≤ 310 := by omega
      have HS := Lib.hid hS'
      have HF := Lib.hid hF
      have HE := Lib.hid ek'
      have HQ := Lib.hid hQp
      have HG := Lib.hid hg
      clear hS hS' hF ek ek' hQ hQp hg
      have hkx : (k : Int) ≠ -1 := by omega
      · cases bk with
        | true =>
          go_wp2_with fail
          go_roundg (3 * unmarked f + m)
          case measure => have := HG.out; omega
          case rel => exact ⟨f, W0, m, gq, off, cap, rfl, by have := HG.out; omega, rfl, hm, HQ.out, HF.out, HS.out.drop (.inr HE.out), hG⟩
        | false =>
          obtain ⟨b, po, ebp, an, cn, -, -, -, -, c4, hin, -⟩ := hP k hk
          cases ebp
          replace c4 := hG.cell c4 (by simp)
          obtain ⟨q, eq⟩ : ∃ q, L[k] = q := ⟨_, rfl⟩
          rw [eq] at c4 hin
          have hqn : nextOf L k = q.next := by rw [nextOf_get hk, eq]
          have hql : q.next.length ≤ 2 := by rw [← hqn]; exact (hL k hk).1
          have HQN := Lib.hid hqn
          clear hqn eq
          rw [← zs_length] at c4 hql
          obtain ⟨ns, ens⟩ : ∃ ns, zs q.next = ns := ⟨_, rfl⟩
          rw [ens] at c4 hql hin
          have HN := Lib.hid ens
          clear ens
          have hsg : Gr wr (wr.setCell ⟨w.heap.size, k, none⟩ (.bool true)) (some w.heap.size) := own_set _ _ _ _
          have hsw : Gr w (wr.setCell ⟨w.heap.size, k, none⟩ (.bool true)) none := hG.setNew (Nat.le_refl _) _
          have hQs : Que (wr.setCell ⟨w.heap.size, k, none⟩ (.bool true)) (w.heap.size + 1) gq off m cap (zs W0) := HQ.out.gr hsg (by have := HQ.out.1; simp; omega)
          have his : InAt (wr.setCell ⟨w.heap.size, k, none⟩ (.bool true)) Any ns an := hin.gr0 hsw
          have hFs := (HF.out).set (k := k) true
          have HFS := Lib.hid hFs
          clear hFs
          go_wp2_with (at_builtin; refine app_q (wr.setCell ⟨w.heap.size, k, none⟩ (.bool true)) rfl (.tmp 40) (.tmp 45) rfl (w.heap.size + 1) gq off m cap (zs W0) rfl hQs an cn ns rfl his (by omega) ?_; rintro gq' off' cap' w' hQ' hg')
          have hun := unmarked_set f k HE.out
          have hgg := HG.out
          have hgq := HQ.out.1
          go_roundg (3 * unmarked (f.set k true) + (m + ns.length))
          case measure => omega
          case rel => exact ⟨f.set k true, W0 ++ q.next, m + ns.length, gq', off', cap', rfl, by omega, rfl, by rw [List.length_append, hm, ← HN.out, zs_length], by rw [zs_app, HN.out]; exact hQ', HFS.out.gr hg' (by simp; omega), by rw [← HQN.out]; exact HS.out.mark hL hkx, hsw.trans hg' (fun r hr => .inr (by simp at hr; omega))⟩

set_option maxRecDepth 100000 in
set_option maxHeartbeats 2000000 in
theorem from_any (p : Pr) (gb a : Nat) (w : World) (hGA : GraphAt w p gb) (hl : (pts p).length ≤ 100) (ha : a < (pts p).length) :
    Calls Try.prog 76 #[.pointer (some ⟨gb, 0, none⟩), .int .i64 a] w (Marked (pts p) (nextOf (pts p) a) (-1) w) := by
  have hL := pts_next p
  obtain ⟨L, a3, n3, a4, n4, ao, co, hLp, d0, d1, d2, hr1, hr2, hP⟩ := hGA
  rw [← hLp] at hL hl ha ⊢
  have hgb : gb < w.heap.size := lt_of_cell d2
  clear hLp d0 d1 hr1 hr2
  have hmk := fun w : World => run_make_row' (P := Try.prog) 66 4 (.bool false) 1 Try.underlying66 Binfo rfl .i64 .i64 L.length (by omega) (by omega) w
  obtain ⟨b0, po0, rfl, an0, cn0, -, -, -, -, c40, hin0, hcn0⟩ := hP a ha
  obtain ⟨q0, eq0⟩ : ∃ q, L[a] = q := ⟨_, rfl⟩
  rw [eq0] at c40 hin0 hcn0
  have hq0 : nextOf L a = q0.next := by rw [nextOf_get ha, eq0]
  have hl0 : q0.next.length ≤ 2 := by rw [← hq0]; exact (hL a ha).1
  have hS0 : Srch L (nextOf L a) (-1) (List.replicate L.length false) q0.next := by
    have := Srch.start (x := -1) (hL a ha).2
    rw [hq0] at this ⊢
    exact this
  clear eq0 hq0
  have hF0 : Flags (w.alloc (.cells (madeCells #[.bool false] L.length) 4)) w.heap.size (List.replicate L.length false) := Flags.new w L.length
  have hG0 : Gr w (w.alloc (.cells (madeCells #[.bool false] L.length) 4)) none := (Gr.refl _ _).alloc _
  have hb0 : b0 < w.heap.size := lt_of_cell c40
  have c41 := hG0.cell c40 (by simp)
  have d21 := hG0.cell d2 (by simp)
  have hI0 : InAt (w.alloc (.cells (madeCells #[.bool false] L.length) 4)) (Off (some w.heap.size)) (zs q0.next) an0 := (hin0.old (Nat.le_refl _)).gr0 hG0
  have hU0 : unmarked (List.replicate L.length false) ≤ L.length := by have := unmarked_le (List.replicate L.length false); simpa using this
  go_enter Try.func76, Try.ntmps76
  go_wp2
  go_loopg [6] (3 * unmarked (List.replicate L.length false) + q0.next.length) (fun g s6 wr => ∃ (f : List Bool) (W : List Nat) (n : Nat) (aq : Option Addr) (cap : Nat), g = 3 * unmarked f + n ∧ g ≤ 310 ∧ s6 = .slice aq n cap ∧ W.length = n ∧ n ≤ cap ∧
    InAt wr (Off (some w.heap.size)) (zs W) aq ∧ Flags wr w.heap.size f ∧ Srch L (nextOf L a) (-1) f W ∧ Gr w wr none)
  case atStart => exact ⟨_, q0.next, q0.next.length, an0, cn0, rfl, by omega, rfl, rfl, hcn0, hI0, hF0, hS0, hG0⟩
  case round =>
    obtain ⟨f, W, n, aq, cap, hg, hg1, rfl, hn, hcap, hI, hF, hS, hG⟩ := hrel
    clear hmk hF0 hG0 hS0 hU0 hI0 c40 c41 d21 hin0
    rcases W with _ | ⟨k, W0⟩
    · obtain rfl : n = 0 := by simpa using hn.symm
      go_wp2
      go_ret
      exact ⟨_, f, rfl, hF, hS.1, hS.done, hG, Nat.le_refl _⟩
    · obtain ⟨m, hm⟩ : ∃ m, W0.length = m := ⟨_, rfl⟩
      obtain rfl : n = m + 1 := by simp at hn; omega
      clear hn
      have hk : k < L.length := hS.2.1 k (by simp)
      have hS' := hS
      have hz : zs (k :: W0) = (k : Int) :: zs W0 := rfl
      rw [hz] at hI
      simp only [InAt] at hI
      obtain ⟨gq, off, rfl, -, hQl, hIt⟩ := hI
      clear hz
      replace d2 := hG.cell d2 (by simp)
      have hfl : k < f.length := by rw [hS.1]; exact hk
      have hfc := hF.cell hfl
      have hff := hF.free k
      obtain ⟨bk, ek⟩ : ∃ bk, f[k] = bk := ⟨_, rfl⟩
      rw [ek] at hfc
      have ek' : f[k]? = some bk := by rw [List.getElem?_eq_getElem hfl, ek]
      have hmb : m ≤ 310 := by omega
      have HS := Lib.hid hS'
      have HF := Lib.hid hF
      have HE := Lib.hid ek'
      have HI := Lib.hid hIt
      have HG := Lib.hid hg
      clear hS hS' hF ek ek' hIt hg
      go_upto_region 5 with fail
      go_cut [6] (fun s6 wx => ∃ a1 c1, s6 = .slice a1 m c1 ∧ m ≤ c1 ∧ wr = wx ∧ InAt wr (Off (some w.heap.size)) (zs W0) a1)
      case first =>
        by_cases hc1 : cap = 1
        · subst hc1
          have hm0 : m = 0 := by omega
          have HM0 := Lib.hid hm0
          clear hm0
          go_wp2_with fail
          go_meet
          have hm0 : m = 0 := HM0.out
          subst hm0
          exact ⟨_, 0, rfl, Nat.le_refl _, rfl, by rw [List.eq_nil_of_length_eq_zero hm]; simp [zs, InAt]⟩
        · go_wp2_with fail
          go_meet
          exact ⟨_, _, rfl, by omega, rfl, HI.out⟩
      case rest =>
      clear HI hQl hcap
      obtain ⟨a1, c1, rfl, hcap, rfl, hI1⟩ := hcut
      have HI := Lib.hid hI1
      clear hI1
      have hkx : (k : Int) ≠ -1 := by omega
      cases bk with
      | true =>
        go_wp2_with fail
        go_roundg (3 * unmarked f + m)
        case measure => have := HG.out; omega
        case rel => exact ⟨f, W0, m, a1, c1, rfl, by have := HG.out; omega, rfl, hm, hcap, HI.out, HF.out, HS.out.drop (.inr HE.out), hG⟩
      | false =>
        obtain ⟨b, po, ebp, an, cn, -, -, -, -, c4, hin, hcn⟩ := hP k hk
        cases ebp
        replace c4 := hG.cell c4 (by simp)
        obtain ⟨q, eq⟩ : ∃ q, L[k] = q := ⟨_, rfl⟩
        rw [eq] at c4 hin hcn
        have hqn : nextOf L k = q.next := by rw [nextOf_get hk, eq]
        have hql : q.next.length ≤ 2 := by rw [← hqn]; exact (hL k hk).1
        have HQN := Lib.hid hqn
        clear hqn eq
        have hsg : Gr wr (wr.setCell ⟨w.heap.size, k, none⟩ (.bool true)) (some w.heap.size) := own_set _ _ _ _
        have d2s : (wr.setCell ⟨w.heap.size, k, none⟩ (.bool true)).cell? ⟨gb, 2, none⟩ = some (.slice (some ⟨b0, po0, none⟩) L.length co) := hsg.cell d2 (by simp; omega)
        have hsw : Gr w (wr.setCell ⟨w.heap.size, k, none⟩ (.bool true)) none := hG.setNew (Nat.le_refl _) _
        have his : InAt (wr.setCell ⟨w.heap.size, k, none⟩ (.bool true)) Any (zs q.next) an := hin.gr0 hsw
        have hiw : InAt (wr.setCell ⟨w.heap.size, k, none⟩ (.bool true)) Any (zs W0) a1 := (HI.out.gr hsg (fun b o h => by unfold Off at h; exact h)).any
        have hFs := (HF.out).set (k := k) true
        have HFS := Lib.hid hFs
        have HM := Lib.hid hm
        clear hFs hm
        go_wp2_with fail
        have hb2 := cell?_new2 (wr.setCell ⟨w.heap.size, k, none⟩ (.bool true)) (v0 := .slice a1 m c1) (v1 := .slice an q.next.length cn) 23
        rw [show (wr.setCell ⟨w.heap.size, k, none⟩ (.bool true)).heap.size = wr.heap.size from by simp [World.setCell]] at hb2
        refine (concat_two (zs W0) (zs q.next) m q.next.length (by rw [zs_length]; exact HM.out) (zs_length _) _ a1 an _ _ _ hb2.1 hb2.2 (hiw.gr0 ((Gr.refl _ _).alloc _)) (his.gr0 ((Gr.refl _ _).alloc _)) (by omega) (by omega)).mono ?_
        rintro e w4 ⟨a4, c4', rfl, hin4, hcap4, hg4⟩
        have hun := unmarked_set f k HE.out
        have hgg := HG.out
        have hlen : (zs W0 ++ zs q.next).length = m + q.next.length := by rw [List.length_append, zs_length, zs_length, HM.out]
        rw [hlen] at hcap4 ⊢
        clear hlen
        go_wp2_with fail
        go_roundg (3 * unmarked (f.set k true) + (m + q.next.length))
        case measure => omega
        case rel => exact ⟨f.set k true, W0 ++ q.next, m + q.next.length, a4, c4', rfl, by omega, rfl, by rw [List.length_append, HM.out], hcap4, by rw [zs_app]; exact InAt.mono (fun b _ hb => by unfold Off; intro e; injection e with e; have := hsw.size; simp at hb this; omega) (fun _ _ _ _ h => h) _ _ hin4, HFS.out.gr (row := none) (((Gr.refl _ _).alloc _).trans0 hg4) (by simp), by rw [← HQN.out]; exact HS.out.mark hL hkx, (hsw.alloc _).trans0 hg4⟩
end Go.Proofs.Ytpnaeijkllmihaa
