/- ShortWay of both sides. -/
import Derived.Test.YtadidppbhpdnkaaFB

import Derived.Test.YtadidppbhpdnkaaF5

namespace Go.Proofs.Ytadidppbhpdnkaa

open Go.RowKit

/-- append of a list that is read to a list of the call's own, not empty either of them. -/
theorem app_ll (w : World) {ops : Array Oper} {rest : List Oper} {o : Oper} {a : Act} {Q : Exit → Act → World → Prop} (hgd : o.guard = none) (s x : Operand)
    (ho : o.op = .call { callee := .builtin .append, args := #[s, x], argTypes := #[23, 23] })
    (b0 base : Nat) (ao : Option Addr) (cap n : Nat) (l : List Int) (hs : a.eval s = .slice ao n cap) (hown : Lst w b0 base l ao n cap) (hn0 : 0 < n)
    (ax : Option Addr) (cx mx : Nat) (m : List Int) (hmx : m.length = mx) (hx : a.eval x = .slice ax mx cx) (hm : InAt w Any m ax) (hm0 : 0 < mx) (hlen : n + mx ≤ 1048576) (hbase : base ≤ w.heap.size)
    (h : ∀ (g cap' : Nat) (w' : World), Lst w' b0 base (l ++ m) (some ⟨g, 0, none⟩) (n + mx) cap' → (∀ a : World, Gr a w none → a.heap.size ≤ base → Gr a w' none) →
      wpList Try.prog ops Q rest (a.put o.dst (.slice (some ⟨g, 0, none⟩) (n + mx) cap')) w') : wpList Try.prog ops Q (o :: rest) a w := by
  subst hmx
  obtain ⟨i0, hi, hz0, hz1, hz2⟩ := info_parts Qinfo
  obtain ⟨bx, ox, rfl, -, -⟩ := hm.at hm0
  have hnews : ∀ k u, (Go.Proofs.Ytadidppbhpdnkaa.ints m)[k]? = some u → w.cell? ((⟨bx, ox, none⟩ : Addr).add k) = some u := by
    intro k u hu
    have hk : k < m.length := by have := (List.getElem?_eq_some_iff.1 hu).1; simpa [Go.Proofs.Ytadidppbhpdnkaa.ints] using this
    obtain ⟨b', o', e, -, hc⟩ := hm.at hk
    cases e
    have hadd : (⟨bx, ox, none⟩ : Addr).add k = ⟨bx, ox + k, none⟩ := by unfold Addr.add; split <;> simp_all
    rw [hadd, hc]
    simpa [Go.Proofs.Ytadidppbhpdnkaa.ints, hk] using hu
  have h1c : ∀ u ∈ Go.Proofs.Ytadidppbhpdnkaa.ints m, u.oneCell' = true := by
    intro u hu
    simp [Go.Proofs.Ytadidppbhpdnkaa.ints] at hu
    obtain ⟨z, -, rfl⟩ := hu
    rfl
  obtain ⟨hn, hb, hcase⟩ := hown
  rcases hcase with ⟨e1, _⟩ | hrow
  · rw [e1] at hn; simp at hn; omega
  · refine app_own w hgd s x 23 ho base 3 i0 _ 1 8 Try.underlying23 hi hz0 hz1 hz2 rfl (by decide) ao n cap (Go.Proofs.Ytadidppbhpdnkaa.ints l) hs hrow ⟨bx, ox, none⟩ m.length cx (Go.Proofs.Ytadidppbhpdnkaa.ints m) hx (by simp [Go.Proofs.Ytadidppbhpdnkaa.ints]) hnews h1c (by unfold maxLen; omega) (by omega) hbase hm0 ?_
    intro g cap' w' h2 h3 h4
    refine h g cap' w' ⟨by simp [hn], hb, .inr ?_⟩ (fun a ha hab => ha.trans h3 (fun r hr => .inr ?_))
    · rw [show Go.Proofs.Ytadidppbhpdnkaa.ints (l ++ m) = Go.Proofs.Ytadidppbhpdnkaa.ints l ++ Go.Proofs.Ytadidppbhpdnkaa.ints m from by simp [Go.Proofs.Ytadidppbhpdnkaa.ints]]
      exact h2
    · have := (own_block hrow r hr).1
      omega
theorem one_lst (w : World) {b : Nat} (hb : b ≤ w.heap.size) (x : Int) : Lst (w.alloc (.cells #[.int .i64 x] 3)) b b [x] (some ⟨w.heap.size, 0, none⟩) 1 1 :=
  (Lst.one w hb (Nat.le_refl _) x).base (Nat.le_refl _) hb
set_option maxRecDepth 100000 in
set_option maxHeartbeats 2000000 in
theorem l13Back_any (T : Tab) (f t g n : Nat) (l : List Nat) (w : World) (hI : IRow w g n (fun j => tI (T j))) (hc : Chn T f t l) (htab : ∀ k a, T k = some a → k < n ∧ a < n) (hll : l.length ≤ 63) (_hn : n ≤ 61) (ht : t < n) (hf : f < n) :
    Calls Try.prog 90 #[.slice (some ⟨g, 0, none⟩) n n, .int .i64 f, .int .i64 t] w (fun e w' => HandI (zs l) w e w' ∧ CapOk e) := by
  obtain ⟨a0, m0, ha0, hBK⟩ := BackAt.start hc
  have HBK := Lib.hid hBK
  have hct := hI.cell ht
  rw [ha0] at hct
  simp only [tI] at hct
  have HTB := Lib.hid htab
  have HI := Lib.hid hI
  have hLS := one_lst w (Nat.le_refl _) (t : Int)
  have hct' := ((Gr.refl w none).alloc (.cells #[.int .i64 (t : Int)] 3)).cell hct (by simp)
  clear hBK htab hI hc ha0 hct
  go_enter Try.func90, Try.ntmps90
  go_wp2_with fail
  obtain ⟨wA, hwA⟩ : ∃ wA : World, wA = w.alloc (.cells #[.int .i64 (t : Int)] 3) := ⟨_, rfl⟩
  have hgA : Gr w wA none := by rw [hwA]; exact (Gr.refl _ _).alloc _
  rw [← hwA] at hLS ⊢
  clear hwA hct'
  go_loopg [7, 8] m0 (fun m s u wq => ∃ (a : Nat) (out : List Nat) (cap : Nat) (ao : Option Addr), s = .slice ao out.length cap ∧ u = .int .i64 a ∧ 0 < out.length ∧ Lst wq w.heap.size w.heap.size (zs out.reverse) ao out.length cap ∧ BackAt T f l a out m ∧ Gr w wq none)
  case atStart => exact ⟨a0, [t], 1, _, rfl, rfl, by simp, hLS, HBK.out, hgA⟩
  case round =>
    obtain ⟨a, out, cap, ao, rfl, rfl, hn0, hL, hB, hg⟩ := hrel
    have hlen := hB.lt
    have hbs := hg.size
    have hN := one_lst wr hbs (a : Int)
    have hga := (Gr.refl wr none).alloc (.cells #[.int .i64 (a : Int)] 3)
    have hL2 := hL.gr hga
    have hal : a < n := by
      obtain ⟨pre, suf, -, -, -, h5⟩ := hB
      rcases h5 with ⟨rfl, rfl⟩ | ⟨-, h5⟩
      · exact hf
      · obtain ⟨c, hc⟩ := h5.has; exact (HTB.out _ _ hc).1
    have hI9 := (HI.out.gr0 (hg.trans0 hga)).cell hal
    have HGA := Lib.hid (hg.trans0 hga)
    have HN := Lib.hid hN
    have HIN := Lib.hid hL2.ints
    have hrl : (zs out.reverse).length = out.length := by rw [zs_length, List.length_reverse]
    by_cases haf : a = f
    · subst haf
      have HLA := Lib.hid hB.last
      clear hL hB hg hLS hL2 hN hga hI9
      go_wp2_with (at_builtin; refine app_ll _ rfl (.tmp 27) (.tmp 28) rfl w.heap.size w.heap.size _ 1 1 [(a : Int)] rfl HN.out (by omega) ao cap out.length (zs out.reverse) hrl rfl HIN.out hn0 (by omega) (by simp; omega) ?_; rintro g3 cap3 w3 hL3 hg3)
      go_ret
      exact ⟨hL3.hand (by rw [← HLA.out]; simp [zs]) (hg3 _ HGA.out (Nat.le_refl _)), CapOk.of hL3.cap⟩
    · obtain ⟨b2, m2, hb2, hB3, hlt3⟩ := hB.step haf
      have HB3 := Lib.hid hB3
      have hne : ((a : Int) != (f : Int)) = true := by simp; omega
      clear hL hB hg hLS hL2 hN hga hB3 haf hI9
      go_upto_region 5 with (at_builtin; refine app_ll _ rfl (.tmp 19) (.tmp 20) rfl w.heap.size w.heap.size _ 1 1 [(a : Int)] rfl HN.out (by omega) ao cap out.length (zs out.reverse) hrl rfl HIN.out hn0 (by omega) (by simp; omega) ?_; rintro g3 cap3 w3 hL3 hg3)
      have HG3 := Lib.hid (hg3 _ HGA.out (Nat.le_refl _))
      have hI9 := (HI.out.gr0 HG3.out).cell hal
      rw [hb2] at hI9
      simp only [tI] at hI9
      have HL3 := Lib.hid hL3
      clear hL3 hg3
      go_wp2_with fail
      go_roundg m2
      case measure => omega
      case rel => exact ⟨b2, out ++ [a], cap3, some ⟨g3, 0, none⟩, by simp [Nat.add_comm], rfl, by simp, by simpa [zs, Nat.add_comm] using HL3.out, HB3.out, HG3.out⟩

theorem visits_append (a : Nat) (s : Tab × List Nat) (l m : List Nat) : visits a s (l ++ m) = visits a (visits a s l) m := by
  unfold visits; rw [List.foldl_append]
theorem visits_take_le (a : Nat) (s : Tab × List Nat) (l : List Nat) (i : Nat) : LeT (visits a s (l.take i)).1 (visits a s l).1 := by
  have h := visits_append a s (l.take i) (l.drop i)
  rw [List.take_append_drop] at h
  rw [h]
  exact visits_le a _ _

theorem leT_none {T U : Tab} (h : LeT T U) {t : Nat} (hn : U t = none) : T t = none := by
  cases e : T t with
  | none => rfl
  | some a => rw [h t a e] at hn; cases hn
set_option maxRecDepth 100000 in
set_option maxHeartbeats 4000000 in
theorem l13Way_any (L : List Pt) (am : Option Addr) (c f t : Nat) (w : World) (hP : PtsAt w L am) (hok : NextOk L) (hml : L.length ≤ 61) (hf : f < L.length) (ht : t < L.length) :
    Calls Try.prog 74 #[.slice am L.length c, .int .i64 f, .int .i64 t] w (HandIOk (zs (shortL L f t).1) (shortL L f t).2 w) := by
  obtain ⟨F, hF⟩ := fin_exists hok (leftT L.length (fun _ => none, [f])) (fun _ => none, [f]) (Nat.le_refl _) (by simpa using hf)
  have HF := Lib.hid hF
  have HOK := Lib.hid hok
  have HP := Lib.hid hP
  clear hF hok hP
  have hmk := fun w : World => run_make_row' (P := Try.prog) 23 3 (.int .i64 0) 8 Try.underlying23 Iinfo rfl .i64 .i64 L.length (by omega) (by omega) w
  have hI0 := IRow.new w L.length
  have hg0 : Gr w (w.alloc (.cells (madeCells #[.int .i64 0] L.length) 3)) none := (Gr.refl _ _).alloc _
  go_enter Try.func74, Try.ntmps74
  go_wp2_with fail
  obtain ⟨wA, hwA⟩ : ∃ wA : World, wA = w.alloc (.cells (madeCells #[.int .i64 0] L.length) 3) := ⟨_, rfl⟩
  rw [← hwA] at hI0 hg0 ⊢
  clear hwA hmk
  go_loopw [9] (fun s wr => ∃ k : Nat, k ≤ L.length ∧ s = .int .i64 k ∧ IRow wr w.heap.size L.length (fun j => if j < k then -1 else 0) ∧ Gr w wr none) (fun s _ => L.length - (intOf s).toNat)
  case atStart => exact ⟨0, by omega, rfl, hI0.congr fun j _ => by simp, hg0⟩
  case round =>
    obtain ⟨k, hk, rfl, hI, hg⟩ := hrel
    by_cases hlt : k < L.length
    · have hc := hI.cell hlt
      have hfr := hI.free k
      have HN := Lib.hid (show IRow (wr.setCell ⟨w.heap.size, k, none⟩ (.int .i64 (-1))) w.heap.size L.length (fun j => if j < k + 1 then -1 else 0) from (hI.set k (-1)).congr fun j _ => by
        by_cases e : j = k
        · simp [e]
        · by_cases e2 : j < k
          · simp [e, e2]; omega
          · simp [e, e2]; omega)
      have HG := Lib.hid (hg.setNew (p := ⟨w.heap.size, k, none⟩) (Nat.le_refl _) (.int .i64 (-1)))
      clear hI hg hI0 hg0
      go_wp2_with fail
      go_roundw
      case rel => exact ⟨k + 1, by omega, by go_num, HN.out, HG.out⟩
      case measure => simp [intOf]; omega
    · obtain rfl : k = L.length := by omega
      have hI1 : IRow wr w.heap.size L.length (fun j => tI ((fun _ => none : Tab) j)) := hI.congr fun j hj => by simp [hj, tI]
      have HI1 := Lib.hid hI1
      have HG1 := Lib.hid hg
      clear hI hg hI0 hg0 hI1
      have hsz : w.heap.size < wr.heap.size := HI1.out.lt
      have hQ0 := que_new wr (w.heap.size + 1) hsz f
      have hgq : Gr wr (wr.alloc (.cells #[.int .i64 (f : Int)] 3)) none := (Gr.refl _ _).alloc _
      go_wp2_with fail
      obtain ⟨wB, hwB⟩ : ∃ wB : World, wB = wr.alloc (.cells #[.int .i64 (f : Int)] 3) := ⟨_, rfl⟩
      rw [← hwB] at hQ0 hgq ⊢
      have hI2 := HI1.out.gr0 hgq
      have hG2 := HG1.out.trans0 hgq
      have hlf0 : leftT L.length ((fun _ => none : Tab), [f]) ≤ 200 := by unfold leftT; have := cntT_le L.length (fun _ => none); simp; omega
      have HS0 := Lib.hid (Srh.start (n := L.length) hf)
      clear hwB hgq HI1 HG1 hlt hk
      go_loopg [10] (leftT L.length ((fun _ => none : Tab), [f])) (fun g s wq => ∃ (T : Tab) (Q : List Nat) (n gq off cap : Nat), g = leftT L.length (T, Q) ∧ g ≤ 200 ∧ s = .slice (some ⟨gq, off, none⟩) n cap ∧ Q.length = n ∧ Que wq (w.heap.size + 1) gq off n cap (zs Q) ∧ IRow wq w.heap.size L.length (fun j => tI (T j)) ∧ Srh L.length f (T, Q) ∧ Fin' L (T, Q) F ∧ T t = none ∧ Gr w wq none)
      case atStart => exact ⟨_, [f], 1, _, 0, 1, rfl, hlf0, rfl, rfl, hQ0, hI2, HS0.out, HF.out, rfl, hG2⟩
      case round =>
        obtain ⟨T, Q, n, gq, off, cap, hg, hg1, rfl, hn, hQ, hI, hS, hFn, hTn, hG⟩ := hrel
        clear hQ0 hI2 hG2 HS0 hlf0
        have HI := Lib.hid hI
        have HS := Lib.hid hS
        have HFN := Lib.hid hFn
        have HQ := Lib.hid hQ
        have HG := Lib.hid hG
        have HGE := Lib.hid hg
        have HO := Lib.hid hTn
        have hqc : n ≤ cap := hQ.2.2.2.1
        clear hg hI hS hFn hQ hG hTn
        rcases Q with _ | ⟨k, Q0⟩
        · obtain rfl : n = 0 := by simpa using hn.symm
          have HFE := Lib.hid (fin_nil HFN.out)
          have HSH := Lib.hid (shortL_none HF.out (t := t) (by rw [← HFE.out]; exact HO.out))
          have HE := Lib.hid (Lst.empty (w := wr.alloc (.cells #[] 3)) (Nat.le_refl w.heap.size) HG.out.size (heap1_0 _ _))
          go_wp2_with fail
          go_ret2
          rw [HSH.out]
          exact (HE.out.hand rfl (HG.out.alloc _)).ok false (Nat.le_refl _)
        · obtain ⟨w1, rfl⟩ : ∃ w1 : World, w1 = wr := ⟨_, rfl⟩
          obtain ⟨m, hm⟩ : ∃ m, Q0.length = m := ⟨_, rfl⟩
          obtain rfl : n = m + 1 := by simp at hn; omega
          clear hn
          have hk : k < L.length := (HS.out.que k (by simp)).1
          have HKF := Lib.hid (HS.out.que k (by simp)).2
          have hQl : w1.cell? ⟨gq, off, none⟩ = some (.int .i64 (k : Int)) := by
            have := HQ.out.cell (j := 0) (by simp [zs])
            simpa [zs] using this
          have hQp : Que w1 (w.heap.size + 1) gq (off + 1) m (cap - 1) (zs Q0) := by
            have hz : zs (k :: Q0) = (k : Int) :: zs Q0 := rfl
            have h1 := HQ.out
            rw [hz] at h1
            have := h1.tail
            rw [zs_length, hm] at this
            exact this
          have HQ := Lib.hid hQp
          have hmb : m ≤ 200 := by have := HGE.out; unfold leftT at this; simp at this; omega
          obtain ⟨bp, po, rfl, an, cn, -, -, -, -, c4, hin, -⟩ := HP.out k hk
          have C4 := Lib.hid c4
          obtain ⟨N, hN⟩ : ∃ N, nextOf L k = N := ⟨_, rfl⟩
          have hqN : L[k].next = N := by rw [← nextOf_get hk, hN]
          have hNl : N.length ≤ 2 := by rw [← hN]; exact (HOK.out k hk).1
          have HNL := Lib.hid (show ∀ j ∈ N, j < L.length by rw [← hN]; exact (HOK.out k hk).2)
          rw [hqN] at C4 hin
          have HIN := Lib.hid hin
          have HN := Lib.hid hN
          clear hin hQp hqN hN c4
          go_upto_region 9 with fail
          go_cut [10] (fun s8 wx => ∃ off1, s8 = .slice (some ⟨gq, off1, none⟩) m (cap - 1) ∧ w1 = wx ∧ Que w1 (w.heap.size + 1) gq off1 m (cap - 1) (zs Q0))
          case first =>
            by_cases hc1 : cap = 1
            · subst hc1
              have hq0 : Que w1 (w.heap.size + 1) gq off m (1 - 1) (zs Q0) := ⟨HQ.out.1, HQ.out.2.1, HQ.out.2.2.1, HQ.out.2.2.2.1, fun j hj => by omega, fun j u hu => by
                have := (List.getElem?_eq_some_iff.1 hu).1
                have := HQ.out.2.2.1
                rw [ints_length] at *
                omega⟩
              have HQ0 := Lib.hid hq0
              clear hq0
              go_wp2_with fail
              go_meet
              have hm0 : m = 0 := by omega
              subst hm0
              exact ⟨off, rfl, rfl, HQ0.out⟩
            · go_wp2_with fail
              go_meet
              exact ⟨off + 1, rfl, rfl, HQ.out⟩
          case rest =>
          clear HQ hQl
          obtain ⟨off1, rfl, rfl, hQ1⟩ := hcut
          have HQ := Lib.hid hQ1
          clear hQ1
          go_wp2_with fail
          go_loopw [10, 12] (fun s u wq => ∃ (i gq off n cap : Nat), i ≤ N.length ∧ u = .int .i64 i ∧ s = .slice (some ⟨gq, off, none⟩) n cap ∧ n ≤ 300 ∧ (visits k (T, Q0) (N.take i)).2.length = n ∧
            Que wq (w.heap.size + 1) gq off n cap (zs (visits k (T, Q0) (N.take i)).2) ∧ IRow wq w.heap.size L.length (fun j => tI ((visits k (T, Q0) (N.take i)).1 j)) ∧ (visits k (T, Q0) (N.take i)).1 t = none ∧ Gr w wq none) (fun _ u _ => N.length - (intOf u).toNat)
          case atStart => exact ⟨0, gq, off1, m, cap - 1, by omega, rfl, rfl, by omega, hm, HQ.out, HI.out, HO.out, HG.out⟩
          case round =>
            obtain ⟨i, gq2, off2, n2, cap2, hi, rfl, rfl, hn2, hql, hQ2, hI2, hTn, hG2⟩ := hrel
            obtain ⟨wi, rfl⟩ : ∃ wi : World, wi = wr := ⟨_, rfl⟩
            have c4 := hG2.cell C4.out (by simp)
            by_cases hlt : i < N.length
            · obtain ⟨bn, on, rfl, -, hci⟩ := HIN.out.at (i := i) (by rw [zs_length]; exact hlt)
              obtain ⟨x, hx⟩ : ∃ x, N[i] = x := ⟨_, rfl⟩
              have hxl : x < L.length := HNL.out x (by rw [← hx]; exact List.getElem_mem _)
              have hzi : (zs N)[i]'(by rw [zs_length]; exact hlt) = (x : Int) := by rw [← hx]; simp [zs]
              rw [hzi] at hci
              replace hci := hG2.cell hci (by simp)
              have htk : visits k (T, Q0) (N.take (i + 1)) = visit k (visits k (T, Q0) (N.take i)) x := by rw [visits_take hlt, hx]
              have HSR := Lib.hid (show Srh L.length f (visits k (T, Q0) (N.take (i + 1))) from HS.out.pop.visits hk HKF.out fun j hj => HNL.out j (List.mem_of_mem_take hj))
              have HLE := Lib.hid (show LeT (visits k (T, Q0) (N.take (i + 1))).1 F from (visits_take_le k (T, Q0) N (i + 1)).trans (by rw [← HN.out]; exact (fin_pop HFN.out).le))
              obtain ⟨S, hS⟩ : ∃ S, visits k (T, Q0) (N.take i) = S := ⟨_, rfl⟩
              rw [hS] at hql hQ2 hI2 htk hTn
              have hcx := hI2.cell hxl
              have hfx := hI2.free x
              have HQ2 := Lib.hid hQ2
              have HI2 := Lib.hid hI2
              have HG2 := Lib.hid hG2
              have HQL := Lib.hid hql
              have HTN := Lib.hid hTn
              have hqb := hQ2.1
              have hiu := hI2.upd x k
              have hgs := own_set wi w.heap.size x (.int .i64 (k : Int))
              have hwi := hI2.lt
              clear hQ2 hI2 hG2 hql hx hzi hS hTn
              have htx := tI_ge (o := S.1 x)
              obtain ⟨o, ho⟩ : ∃ o, S.1 x = o := ⟨_, rfl⟩
              rw [ho] at hcx htx
              have HTK := Lib.hid htk
              clear htk
              cases o with
              | some c9 =>
                have hv : visit k S x = S := by unfold visit; rw [if_neg (by rw [ho]; simp)]
                simp only [Option.isSome_some, tI] at htx hcx
                rw [hv] at HTK
                clear ho hv
                go_wp2_with fail
                go_roundw
                case rel => exact ⟨i + 1, gq2, off2, n2, cap2, by omega, by go_num, rfl, hn2, by rw [HTK.out]; exact HQL.out, by rw [HTK.out]; exact HQ2.out, by rw [HTK.out]; exact HI2.out, by rw [HTK.out]; exact HTN.out, HG2.out⟩
                case measure => simp [intOf]; omega
              | none =>
                have hv : visit k S x = (updT S.1 x k, S.2 ++ [x]) := by unfold visit; rw [if_pos ho]
                simp only [Option.isSome_none, tI] at htx hcx
                rw [hv] at HTK
                have hGs : Gr w (wi.setCell ⟨w.heap.size, x, none⟩ (.int .i64 (k : Int))) none := HG2.out.setNew (Nat.le_refl _) _
                by_cases hxt : x = t
                · subst hxt
                  have HST := Lib.hid (show Srh L.length f (updT S.1 x k, S.2 ++ [x]) by rw [← HTK.out]; exact HSR.out)
                  have HLF := Lib.hid (show LeT (updT S.1 x k) F by have := HLE.out; rw [HTK.out] at this; exact this)
                  obtain ⟨l, hcl, hll⟩ := HST.out.way x k (by simp [updT])
                  have hl63 : l.length ≤ 63 := by have := cntT_le L.length (updT S.1 x k); simp only at hll; omega
                  have HSH := Lib.hid (shortL_some HF.out (hcl.mono HLF.out))
                  have HB := Lib.hid (l13Back_any (updT S.1 x k) f x w.heap.size L.length l (wi.setCell ⟨w.heap.size, x, none⟩ (.int .i64 (k : Int))) hiu hcl HST.out.tab hl63 hml hxl hf)
                  have HGS := Lib.hid hGs
                  clear ho hv hGs hiu hcl hll HSR HLE
                  go_wp2_with fail
                  refine HB.out.mono ?_
                  rintro e w5 ⟨⟨a5, c5, rfl, hI5, hb5, hz5, hg5⟩, hcp⟩
                  have HCP := Lib.hid (hcp _ _ _ rfl)
                  have hgs5 := HGS.out.size
                  have HI5 := Lib.hid hI5
                  have HB5 := Lib.hid hb5
                  have HZ5 := Lib.hid hz5
                  clear hI5 hb5 hz5 hcp
                  go_wp2_with fail
                  go_ret2
                  rw [HSH.out]
                  exact ⟨a5, c5, rfl, HI5.out, fun g hg => ⟨Nat.le_trans hgs5 (HB5.out g hg).1, (HB5.out g hg).2⟩, HZ5.out, HGS.out.trans0 hg5, HCP.out⟩
                · have hne : ((x : Int) == (t : Int)) = false := beq_eq_false_iff_ne.2 (by omega)
                  have HTT := Lib.hid (show (updT S.1 x k) t = none by unfold updT; rw [if_neg (by omega)]; exact HTN.out)
                  have hb : n2 + 1 ≤ 300 := by
                    have h1 := visits_left (n := L.length) (a := k) (s := (T, Q0)) (l := N.take (i + 1)) (fun j hj => HNL.out j (List.mem_of_mem_take hj))
                    rw [HTK.out] at h1
                    have h2 : leftT L.length (T, Q0) + 1 = gk := by rw [HGE.out]; unfold leftT; simp; omega
                    have h3 : (S.2 ++ [x]).length ≤ leftT L.length (updT S.1 x k, S.2 ++ [x]) := by unfold leftT; simp only; omega
                    have h4 := HQL.out
                    simp only [List.length_append, List.length_cons, List.length_nil] at h3
                    omega
                  have hqs : Que (wi.setCell ⟨w.heap.size, x, none⟩ (.int .i64 (k : Int))) (w.heap.size + 1) gq2 off2 n2 cap2 (zs S.2) := HQ2.out.gr hgs (by simp; omega)
                  have hga := (Gr.refl (wi.setCell ⟨w.heap.size, x, none⟩ (.int .i64 (k : Int))) none).alloc (.cells #[.int .i64 (x : Int)] 3)
                  have hq3 := hqs.gr hga (by simp)
                  have hi3 := hiu.gr0 hga
                  have hG3 := hGs.trans0 hga
                  have hia : InAt ((wi.setCell ⟨w.heap.size, x, none⟩ (.int .i64 (k : Int))).alloc (.cells #[.int .i64 (x : Int)] 3)) Any [(x : Int)] (some ⟨wi.heap.size, 0, none⟩) := by
                    refine InAt.of fun j hj => ⟨trivial, ?_⟩
                    obtain rfl : j = 0 := by simp at hj; omega
                    rw [cell_of_row _ _ _ _ _ _ (by simpa using heap1_0 (wi.setCell ⟨w.heap.size, x, none⟩ (.int .i64 (k : Int))) (.cells #[.int .i64 (x : Int)] 3))]; rfl
                  have HQ3 := Lib.hid hq3
                  have HI3 := Lib.hid hi3
                  have HG3 := Lib.hid hG3
                  have HIA := Lib.hid hia
                  clear ho hv hqs hGs hga hq3 hi3 hG3 hia hiu HSR HLE
                  go_wp2_with (at_builtin; refine app_q _ rfl (.tmp 70) (.tmp 72) rfl (w.heap.size + 1) gq2 off2 n2 cap2 (zs S.2) rfl HQ3.out (some ⟨wi.heap.size, 0, none⟩) 1 [(x : Int)] rfl HIA.out (by simp; omega) ?_; rintro gq' off' cap' w' hQ' hg')
                  go_roundw
                  case rel => exact ⟨i + 1, gq', off', n2 + 1, cap', by omega, by go_num, rfl, hb, by rw [HTK.out]; simp [HQL.out], by rw [HTK.out]; simpa [zs] using hQ', by rw [HTK.out]; exact HI3.out.gr hg' (by simp; omega), by rw [HTK.out]; exact HTT.out, HG3.out.trans hg' (fun r hr => .inr (by simp at hr; omega))⟩
                  case measure => simp [intOf]; omega
            · obtain rfl : i = N.length := by omega
              rw [List.take_length] at hql hQ2 hI2 hTn
              have HQ2 := Lib.hid hQ2
              have HI2 := Lib.hid hI2
              have HG2 := Lib.hid hG2
              have HQL := Lib.hid hql
              have HTN := Lib.hid hTn
              have hle := visits_left (n := L.length) (a := k) (s := (T, Q0)) HNL.out
              have hgk : leftT L.length (T, Q0) + 1 = gk := by rw [HGE.out]; unfold leftT; simp; omega
              clear hQ2 hI2 hG2 hql hTn
              go_wp2_with fail
              go_roundg (leftT L.length (visits k (T, Q0) N))
              case measure => omega
              case rel => exact ⟨(visits k (T, Q0) N).1, (visits k (T, Q0) N).2, n2, gq2, off2, cap2, rfl, by omega, rfl, HQL.out, HQ2.out, HI2.out, HS.out.pop.visits hk HKF.out HNL.out, by rw [← HN.out]; exact fin_pop HFN.out, HTN.out, HG2.out⟩

/-- What ShortWay says. -/
noncomputable def shortOf (p : Pr) (f t : Int) : List Nat × Bool := if hasTwo p f t then shortL (ptsOf p) f.toNat t.toNat else ([], false)
theorem shortOf_in {p : Pr} {f t : Nat} (h : hasTwo p f t = true) : shortOf p f t = shortL (ptsOf p) f t := by unfold shortOf; rw [if_pos h]; rfl
theorem shortOf_out {p : Pr} {f t : Int} (h : hasTwo p f t = false) : shortOf p f t = ([], false) := by unfold shortOf; rw [if_neg (by simp [h])]
theorem HandIOk.aft {l : List Int} {b : Bool} {w0 w w' : World} {e : Ending} (h : HandIOk l b w e w') (hg : Gr w0 w none) : HandIOk l b w0 e w' := by
  obtain ⟨a, c, e1, h1, h2, h3, h4, h5⟩ := h
  exact ⟨a, c, e1, h1, fun g hgo => ⟨Nat.le_trans hg.size (h2 g hgo).1, (h2 g hgo).2⟩, h3, hg.trans0 h4, h5⟩
set_option maxHeartbeats 1000000 in
theorem implShortWay_any (p : Pr) (a b : Int) (at' ab : Option Addr) (ct cb : Nat) (w : World) (hT : InAt w Any p.types at') (hB : SlAt w Any p.body ab) (hs : p.types.length ≤ 1048576) (hc : p.body.length ≤ 1048576) :
    Calls Try.prog 44 #[.agg #[.slice at' p.types.length ct, .slice ab p.body.length cb], .int .i64 a, .int .i64 b] w (HandIOk (zs (shortOf p a b).1) (shortOf p a b).2 w) := by
  have hg1 : ∀ o o', Gr w ((w.alloc o).alloc o') none := fun o o' => ((Gr.refl _ _).alloc _).alloc _
  go_enter Try.func44, Try.ntmps44
  go_wp2_with fail
  refine (graphOf_any p [a, b] at' ab _ ct cb _ _ (hT.gr0 (hg1 _ _)) (hB.gr0 (hg1 _ _)) (inAt_two _ _ _ _) hs hc (by simp)).mono ?_
  rintro e w1 ⟨hg, hif⟩
  have hG1 : Gr w w1 none := (hg1 _ _).trans0 hg
  rw [graphOk_two] at hif
  cases h2 : hasTwo p a b with
  | true =>
    rw [h2, if_pos rfl] at hif
    obtain ⟨gb, rfl, hgb, hGA⟩ := hif
    obtain ⟨j, k, rfl, rfl, hj, hk, hv, hpp⟩ := hasTwo_in h2
    have HO := Lib.hid (shortOf_in h2)
    have HW := Lib.hid (shortWay_any p gb j k w1 hGA hv hj hk)
    clear h2 hv hpp hg hGA
    go_wp2_with fail
    refine HW.out.mono ?_
    rw [← HO.out]
    intro e w3 hh
    replace hh := hh.aft hG1
    obtain ⟨a5, c5, rfl, -⟩ := id hh
    have HH := Lib.hid hh
    clear hh
    go_wp2_with fail
    go_ret2
    exact HH.out
  | false =>
    rw [h2, if_neg (by simp)] at hif
    subst hif
    have HO := Lib.hid (shortOf_out h2)
    clear h2
    go_wp2_with fail
    go_ret2
    rw [HO.out]
    exact shortOk_nil _ _ hG1
set_option maxHeartbeats 1000000 in
theorem specShortWay_any (p : Pr) (a b : Int) (at' ab : Option Addr) (ct cb : Nat) (w : World) (hT : InAt w Any p.types at') (hB : SlAt w Any p.body ab) (hs : p.types.length ≤ 1048576) (hc : St.count p.body ≤ 1048576) :
    Calls Try.prog 45 #[.agg #[.slice at' p.types.length ct, .slice ab p.body.length cb], .int .i64 a, .int .i64 b] w (HandIOk (zs (shortOf p a b).1) (shortOf p a b).2 w) := by
  have hg1 : ∀ o, Gr w (w.alloc o) none := fun o => (Gr.refl _ _).alloc _
  go_enter Try.func45, Try.ntmps45
  go_wp2_with fail
  refine (specPointsOf_any p at' ab ct cb _ (hT.gr0 (hg1 _)) (hB.gr0 (hg1 _)) hs hc).mono ?_
  rintro e w1 ⟨M, am, c, hM, rfl, hown, hg⟩
  have hG1 : Gr w w1 none := (hg1 _).trans0 hg
  have hml : M.length ≤ 61 := by rw [hM]; exact ptsOf_le p
  have HN := Lib.hid (show NextOk M from hM ▸ ptsOf_ok p)
  have HR := Lib.hid hown.read
  have HM := Lib.hid hM
  have hex := Gr.alloc (Gr.refl w1 none) (.cells #[] 3)
  clear hown hg
  cases h2 : hasTwo p a b with
  | true =>
    obtain ⟨j, k, rfl, rfl, hj, hk, hv, hpp⟩ := hasTwo_in h2
    rw [← hM] at hj hk
    have HO := Lib.hid (shortOf_in h2)
    clear h2 hv hpp hM
    go_wp2_with fail
    refine (l13Way_any M am c j k _ HR.out HN.out hml hj hk).mono ?_
    rw [HM.out, ← HO.out]
    intro e w3 hh
    replace hh := hh.aft hG1
    obtain ⟨a5, c5, rfl, -⟩ := id hh
    have HH := Lib.hid hh
    clear hh
    go_wp2_with fail
    go_ret2
    exact HH.out
  | false =>
    have HO := Lib.hid (shortOf_out h2)
    have hout : ¬ (0 ≤ a ∧ a < (M.length : Int) ∧ 0 ≤ b ∧ b < (M.length : Int)) := by
      rintro ⟨q1, q2, q3, q4⟩
      rw [hM] at q2 q4
      have : hasTwo p a b = true := by unfold hasTwo; simp; omega
      rw [h2] at this; cases this
    have HE := Lib.hid (Lst.empty (w := w1.alloc (.cells #[] 3)) (Nat.le_refl w.heap.size) hG1.size (heap1_0 _ _))
    clear h2 hM
    by_cases ha0 : a < 0
    · go_wp2_with fail
      all_goals first | (exfalso; omega) | (go_ret2; rw [HO.out]; exact (HE.out.hand rfl (hG1.alloc _)).ok false (Nat.le_refl _))
    · by_cases ha1 : (M.length : Int) ≤ a
      · go_wp2_with fail
        all_goals first | (exfalso; omega) | (go_ret2; rw [HO.out]; exact (HE.out.hand rfl (hG1.alloc _)).ok false (Nat.le_refl _))
      · by_cases hb0 : b < 0
        · go_wp2_with fail
          all_goals first | (exfalso; omega) | (go_ret2; rw [HO.out]; exact (HE.out.hand rfl (hG1.alloc _)).ok false (Nat.le_refl _))
        · have hb1 : (M.length : Int) ≤ b := by omega
          go_wp2_with fail
          all_goals first | (exfalso; omega) | (go_ret2; rw [HO.out]; exact (HE.out.hand rfl (hG1.alloc _)).ok false (Nat.le_refl _))
end Go.Proofs.Ytadidppbhpdnkaa
