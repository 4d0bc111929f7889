/- The walk of shortWay of the program. -/
import Derived.Test.YtadidppbhpdnkaaFA

namespace Go.Proofs.Ytadidppbhpdnkaa

open Go.RowKit

theorem visits_take {a m : Nat} {s : Tab × List Nat} {l : List Nat} (h : m < l.length) : visits a s (l.take (m + 1)) = visit a (visits a s (l.take m)) l[m] := by
  unfold visits
  rw [List.take_succ_eq_append_getElem h, List.foldl_append]; rfl
theorem fin_pop {L : List Pt} {T F : Tab} {a : Nat} {Q : List Nat} (h : Fin' L (T, a :: Q) F) : Fin' L (visits a (T, Q) (nextOf L a)) F := by
  cases h with | pop h => exact h
theorem fin_nil {L : List Pt} {T F : Tab} (h : Fin' L (T, []) F) : T = F := by
  cases h; rfl
/-- The way back: the last step. -/
theorem chn_back {T : Tab} {f v : Nat} {l : List Nat} (h : Chn T f v l) : ∃ a pre, T v = some a ∧ l = pre ++ [a, v] ∧ ((a = f ∧ pre = []) ∨ (a ≠ f ∧ Chn T f a (pre ++ [a]))) := by
  cases h with
  | base h => exact ⟨f, [], h, rfl, .inl ⟨rfl, rfl⟩⟩
  | @step v a l h hne hc =>
    obtain ⟨pre, e⟩ : ∃ pre, l = pre ++ [a] := by
      cases hc with
      | base _ => exact ⟨[f], rfl⟩
      | @step _ _ l' _ _ _ => exact ⟨l', rfl⟩
    exact ⟨a, pre, h, by rw [e]; simp, .inr ⟨hne, by rw [← e]; exact hc⟩⟩
/-- The way back under way: a is met next, out is what was met. -/
def BackAt (T : Tab) (f : Nat) (l : List Nat) (a : Nat) (out : List Nat) (m : Nat) : Prop :=
  ∃ pre suf, l = pre ++ a :: suf ∧ out = suf.reverse ∧ m = pre.length ∧ ((a = f ∧ pre = []) ∨ (a ≠ f ∧ Chn T f a (pre ++ [a])))
theorem BackAt.start {T : Tab} {f v : Nat} {l : List Nat} (h : Chn T f v l) : ∃ a m, T v = some a ∧ BackAt T f l a [v] m := by
  obtain ⟨a, pre, h1, h2, h3⟩ := chn_back h
  exact ⟨a, pre.length, h1, pre, [v], by rw [h2], rfl, rfl, h3⟩
theorem BackAt.last {T : Tab} {f : Nat} {l out : List Nat} {m : Nat} (h : BackAt T f l f out m) : (out ++ [f]).reverse = l := by
  obtain ⟨pre, suf, h1, h2, h3, h4⟩ := h
  rcases h4 with ⟨_, rfl⟩ | ⟨h4, _⟩
  · subst h2; rw [h1]; simp
  · exact absurd rfl h4
theorem BackAt.step {T : Tab} {f a : Nat} {l out : List Nat} {m : Nat} (h : BackAt T f l a out m) (hne : a ≠ f) : ∃ b m', T a = some b ∧ BackAt T f l b (out ++ [a]) m' ∧ m' < m := by
  obtain ⟨pre, suf, h1, h2, h3, h4⟩ := h
  rcases h4 with ⟨h4, _⟩ | ⟨_, h4⟩
  · exact absurd h4 hne
  · obtain ⟨b, pre', h5, h6, h7⟩ := chn_back h4
    have h8 : pre = pre' ++ [b] := by
      have : pre ++ [a] = (pre' ++ [b]) ++ [a] := by rw [h6]; simp
      exact List.append_inj_left' this rfl
    exact ⟨b, pre'.length, h5, ⟨pre', a :: suf, by rw [h1, h8]; simp, by rw [h2]; simp, rfl, h7⟩, by rw [h3, h8]; simp⟩
theorem BackAt.lt {T : Tab} {f a : Nat} {l out : List Nat} {m : Nat} (h : BackAt T f l a out m) : out.length + m + 1 = l.length := by
  obtain ⟨pre, suf, h1, h2, h3, _⟩ := h
  rw [h1, h2, h3]; simp; omega
theorem shortOk_nil (w w' : World) (hg : Gr w w' none) : HandIOk [] false w (.returned (.tuple #[.slice none 0 0, .bool false])) w' :=
  (HandI.nil w w' hg).ok false (Nat.le_refl _)
theorem Lst.one (w : World) {b0 base : Nat} (h0 : b0 ≤ base) (hb : base ≤ w.heap.size) (x : Int) : Lst (w.alloc (.cells #[.int .i64 x] 3)) b0 base [x] (some ⟨w.heap.size, 0, none⟩) 1 1 :=
  ⟨rfl, h0, .inr ⟨by simp [Go.Proofs.Ytadidppbhpdnkaa.ints], .inr ⟨w.heap.size, 1, #[.int .i64 x], rfl, hb, heap1_0 _ _, Nat.le_refl _, by unfold maxLen; omega, rfl, by simp [Go.Proofs.Ytadidppbhpdnkaa.ints]⟩⟩⟩
theorem Lst.blk {w : World} {b0 base : Nat} {l : List Int} {ao : Option Addr} {n cap : Nat} (h : Lst w b0 base l ao n cap) (hn : 0 < n) : ∃ g, ao = some ⟨g, 0, none⟩ ∧ base ≤ g ∧ g < w.heap.size ∧ (∀ x : Addr, x.block = g → w.frozen? x = false) ∧ n ≤ cap := by
  have hc := h.cap
  rcases h.2.2 with ⟨h1, _⟩ | h4
  · have := h.1; rw [h1] at this; simp at this; omega
  · obtain ⟨g, cap', e⟩ := own_some h4 hn
    cases e
    obtain ⟨h5, h6⟩ := own_block h4 g rfl
    exact ⟨g, rfl, h5, h6, fun x hx => own_frozen h4 x (by simp [ob, hx]), hc⟩
theorem shortOk_hand {w w0 w9 w10 : World} {l out : List Nat} {a g bs n cap : Nat} {b0 : Nat} {m : List Int} (hla : (out ++ [a]).reverse = l) (hL : Lst w9 b0 bs m (some ⟨g, 0, none⟩) (n + 1) cap) (hn : n = out.length) (hzl : (zs (out ++ [a])).length = n + 1)
    (hin : InAt w10 Any (zs (out ++ [a])).reverse (some ⟨g, 0, none⟩)) (hfz : ∀ x, w10.frozen? x = w9.frozen? x) (hgr : Gr w9 w10 (some g)) (hg : Gr w w0 none) (hg9 : Gr w0 w9 none) (hbs : w0.heap.size = bs) (hb9 : bs ≤ g) (hc : n + 1 ≤ cap) :
    HandIOk (zs l) true w (.returned (.tuple #[.slice (some ⟨g, 0, none⟩) (n + 1) cap, .bool true])) w10 := by
  obtain ⟨g', e, h1, h2, h3, h4⟩ := hL.blk (by omega)
  cases e
  have hz : zs l = (zs (out ++ [a])).reverse := by rw [← hla]; simp [zs]
  have hl : (zs l).length = n + 1 := by rw [hz, List.length_reverse, hzl]
  have hgg : Gr w w10 none := hg.trans0 (hg9.trans hgr (fun r e => .inr (by cases e; omega)))
  have := hg.size
  have := hg9.size
  have := hgr.size
  refine ⟨some ⟨g, 0, none⟩, cap, by rw [hl], by rw [hz]; exact hin, fun g2 e => ?_, fun x e => ?_, hgg, by omega⟩
  · simp [ob] at e; subst e; exact ⟨by omega, by omega⟩
  · simp [ob] at e; rw [hfz]; exact h3 x e.symm
set_option maxRecDepth 100000 in
set_option maxHeartbeats 4000000 in
theorem shortWay_any (p : Pr) (gb f t : Nat) (w : World) (hGA : GraphAt w p gb) (hv : validP p = true) (hf : f < (ptsOf p).length) (ht : t < (ptsOf p).length) :
    Calls Try.prog 73 #[.pointer (some ⟨gb, 0, none⟩), .int .i64 f, .int .i64 t] w (HandIOk (zs (shortL (ptsOf p) f t).1) (shortL (ptsOf p) f t).2 w) := by
  have hml := ptsOf_le p
  have hp := ptsOf_pts hv
  have hok := ptsOf_ok p
  obtain ⟨L, a3, n3, a4, n4, ao, co, hLp, d0, d1, d2, hr1, hr2, hP⟩ := hGA
  rw [← hp] at hLp
  rw [← hLp] at hml hf ht hok ⊢
  have hgb : gb < w.heap.size := lt_of_cell d2
  obtain ⟨F, hF⟩ := fin_exists hok (leftT L.length (fun _ => none, [f])) (fun _ => none, [f]) (Nat.le_refl _) (by simpa using hf)
  have HF := Lib.hid hF
  have HOK := Lib.hid hok
  have HP := Lib.hid hP
  clear hLp d0 d1 hr1 hr2 hP hF hok hp hv
  have hmk := fun w : World => run_make_row' (P := Try.prog) 23 3 (.int .i64 0) 8 Try.underlying23 Iinfo rfl .i64 .i64 L.length (by omega) (by omega) w
  have hI0 := IRow.new w L.length
  have hg0 : Gr w (w.alloc (.cells (madeCells #[.int .i64 0] L.length) 3)) none := (Gr.refl _ _).alloc _
  go_enter Try.func73, Try.ntmps73
  go_wp2_with fail
  obtain ⟨wA, hwA⟩ : ∃ wA : World, wA = w.alloc (.cells (madeCells #[.int .i64 0] L.length) 3) := ⟨_, rfl⟩
  rw [← hwA] at hI0 hg0 ⊢
  clear hwA hmk
  go_loopw [24] (fun s wr => ∃ k : Nat, k ≤ L.length ∧ s = .int .i64 k ∧ IRow wr w.heap.size L.length (fun j => if j < k then -1 else 0) ∧ Gr w wr none) (fun s _ => L.length - (intOf s).toNat)
  case atStart => exact ⟨0, by omega, rfl, hI0.congr fun j _ => by simp, hg0⟩
  case round =>
    obtain ⟨k, hk, rfl, hI, hg⟩ := hrel
    by_cases hlt : k < L.length
    · have hc := hI.cell hlt
      have hfr := hI.free k
      have HN := Lib.hid (show IRow (wr.setCell ⟨w.heap.size, k, none⟩ (.int .i64 (-1))) w.heap.size L.length (fun j => if j < k + 1 then -1 else 0) from (hI.set k (-1)).congr fun j _ => by
        by_cases e : j = k
        · simp [e]
        · by_cases e2 : j < k
          · simp [e, e2]; omega
          · simp [e, e2]; omega)
      have HG := Lib.hid (hg.setNew (p := ⟨w.heap.size, k, none⟩) (Nat.le_refl _) (.int .i64 (-1)))
      clear hI hg hI0 hg0
      go_wp2_with fail
      go_roundw
      case rel => exact ⟨k + 1, by omega, by go_num, HN.out, HG.out⟩
      case measure => simp [intOf]; omega
    · obtain rfl : k = L.length := by omega
      have hI1 : IRow wr w.heap.size L.length (fun j => tI ((fun _ => none : Tab) j)) := hI.congr fun j hj => by simp [hj, tI]
      have HI1 := Lib.hid hI1
      have HG1 := Lib.hid hg
      clear hI hg hI0 hg0 hI1
      have hsz : w.heap.size < wr.heap.size := HI1.out.lt
      have hQ0 := que_new wr (w.heap.size + 1) hsz f
      have hgq : Gr wr (wr.alloc (.cells #[.int .i64 (f : Int)] 3)) none := (Gr.refl _ _).alloc _
      go_wp2_with fail
      obtain ⟨wB, hwB⟩ : ∃ wB : World, wB = wr.alloc (.cells #[.int .i64 (f : Int)] 3) := ⟨_, rfl⟩
      rw [← hwB] at hQ0 hgq ⊢
      have hI2 := HI1.out.gr0 hgq
      have hG2 := HG1.out.trans0 hgq
      have hlf0 : leftT L.length ((fun _ => none : Tab), [f]) ≤ 200 := by unfold leftT; have := cntT_le L.length (fun _ => none); simp; omega
      have HS0 := Lib.hid (Srh.start (n := L.length) hf)
      clear hwB hgq HI1 HG1 hlt hk
      go_loopg [10] (leftT L.length ((fun _ => none : Tab), [f])) (fun g s wq => ∃ (T : Tab) (Q : List Nat) (n gq off cap : Nat), g = leftT L.length (T, Q) ∧ g ≤ 200 ∧ s = .slice (some ⟨gq, off, none⟩) n cap ∧ Q.length = n ∧ Que wq (w.heap.size + 1) gq off n cap (zs Q) ∧ IRow wq w.heap.size L.length (fun j => tI (T j)) ∧ Srh L.length f (T, Q) ∧ Fin' L (T, Q) F ∧ Gr w wq none)
      case atStart => exact ⟨_, [f], 1, _, 0, 1, rfl, hlf0, rfl, rfl, hQ0, hI2, HS0.out, HF.out, hG2⟩
      case round =>
        obtain ⟨T, Q, n, gq, off, cap, hg, hg1, rfl, hn, hQ, hI, hS, hFn, hG⟩ := hrel
        clear hQ0 hI2 hG2 HS0 hlf0
        have HI := Lib.hid hI
        have HS := Lib.hid hS
        have HFN := Lib.hid hFn
        have HQ := Lib.hid hQ
        have HG := Lib.hid hG
        have HGE := Lib.hid hg
        have hct := hI.cell ht
        have hneg := tI_neg (o := T t)
        obtain ⟨o, ho⟩ : ∃ o, T t = o := ⟨_, rfl⟩
        rw [ho] at hct hneg
        have HO := Lib.hid ho
        have hqc : n ≤ cap := hQ.2.2.2.1
        clear hg hI hS hFn hQ hG ho
        cases o with
        | some b =>
          simp only [Option.isNone_some, tI] at hneg hct
          rcases Q with _ | ⟨k, Q0⟩
          · obtain rfl : n = 0 := by simpa using hn.symm
            obtain ⟨w0, rfl⟩ : ∃ w0 : World, w0 = wr := ⟨_, rfl⟩
            have HLE := Lib.hid (HFN.out.le)
            obtain ⟨l, hcl, hll⟩ := HS.out.way t b HO.out
            have hl63 : l.length ≤ 63 := by have := cntT_le L.length T; simp only at hll; omega
            have HSH := Lib.hid (shortL_some HF.out (hcl.mono HLE.out))
            obtain ⟨a0, m0, ha0, hBK⟩ := BackAt.start hcl
            have hab : a0 = b := by have h1 := HO.out; rw [show T t = some a0 from ha0] at h1; simpa using h1
            subst hab
            have HBK := Lib.hid hBK
            have hctA : ∀ o, (w0.alloc o).cell? ⟨w.heap.size, t, none⟩ = some (.int .i64 (a0 : Int)) := fun o => ((Gr.refl w0 none).alloc o).cell hct (by simp)
            have hLS := Lst.one w0 (b0 := w.heap.size) (base := w0.heap.size) HG.out.size (Nat.le_refl _) (t : Int)
            have HTB := Lib.hid HS.out.tab
            clear hcl hll hBK ha0
            go_wp2_with fail
            obtain ⟨wD, hwD⟩ : ∃ wD : World, wD = w0.alloc (.cells #[.int .i64 (t : Int)] 3) := ⟨_, rfl⟩
            have hgD : Gr w0 wD none := by rw [hwD]; exact (Gr.refl _ _).alloc _
            rw [← hwD] at hLS ⊢
            have HGD := Lib.hid hgD
            obtain ⟨bs, hbs⟩ : ∃ bs, w0.heap.size = bs := ⟨_, rfl⟩
            rw [hbs] at hLS ⊢
            clear hwD hctA hgD
            go_loopg [14, 15] m0 (fun m s u wq => ∃ (a : Nat) (out : List Nat) (n cap : Nat) (ao : Option Addr), s = .slice ao n cap ∧ u = .int .i64 a ∧ n = out.length ∧ 0 < n ∧ Lst wq w.heap.size bs (zs out) ao n cap ∧ BackAt T f l a out m ∧ Gr w0 wq none)
            case atStart => exact ⟨a0, [t], 1, 1, _, rfl, rfl, rfl, by omega, hLS, HBK.out, HGD.out⟩
            case round =>
              obtain ⟨a, out, _, cap2, ao2, rfl, rfl, rfl, hn0, hL2, hB2, hg2⟩ := hrel
              have HL2 := Lib.hid hL2
              have HB2 := Lib.hid hB2
              have HG2 := Lib.hid hg2
              have hlen2 := hB2.lt
              have hbsz : bs ≤ wr.heap.size := by have := hg2.size; omega
              have hI2 := HI.out.gr0 hg2
              clear hL2 hB2 hLS hg2
              go_upto_region 24 with (at_builtin; refine app_l wr _ rfl (.tmp 90) (.tmp 92) rfl w.heap.size bs ao2 cap2 out.length _ (a : Int) rfl HL2.out ((Gr.refl _ _).alloc _) wr.heap.size 1 rfl (cell_of_row _ _ _ _ _ _ (heap1_0 _ _)) (by omega) hbsz ?_; rintro g cap3 w9 hL9 hg9)
              have HG9 := Lib.hid (hg9 _ (HG2.out.alloc _) (by omega))
              have HL9 := Lib.hid hL9
              have hal : a < L.length := by
                obtain ⟨pre, suf, -, -, -, h5⟩ := HB2.out
                rcases h5 with ⟨h5, -⟩ | ⟨-, h5⟩
                · omega
                · obtain ⟨c, hc⟩ := h5.has; exact (HTB.out _ _ hc).1
              clear hL9 hg9 hI2
              by_cases haf : a = f
              · subst haf
                have HLA := Lib.hid HB2.out.last
                obtain ⟨g9, e9, hb9, hlt9, hf9, hc9⟩ := HL9.out.blk (by omega)
                cases e9
                have hzs : zs out ++ [(a : Int)] = zs (out ++ [a]) := by simp [zs]
                have hIN := HL9.out.ints
                rw [hzs] at hIN
                have hzl : (zs (out ++ [a])).length = out.length + 1 := by rw [zs_length]; simp
                have hrv := rev_any (zs (out ++ [a])) g 0 cap3 w9 hIN (by omega) hf9
                rw [hzl] at hrv
                have HZL := Lib.hid hzl
                have HRV := Lib.hid hrv
                clear hIN hzl hzs hf9 hrv
                go_wp2_with fail
                refine HRV.out.mono ?_
                rintro e w10 ⟨rfl, hin, hfz, hgr⟩
                have HIN := Lib.hid hin
                have HFZ := Lib.hid hfz
                have HGR := Lib.hid hgr
                clear hin hfz hgr
                go_wp2_with fail
                go_ret2
                rw [HSH.out]
                exact shortOk_hand HLA.out HL9.out rfl HZL.out HIN.out HFZ.out HGR.out (HG.out) HG9.out hbs hb9 hc9
              · obtain ⟨b2, m2, hb2, hB3, hlt3⟩ := HB2.out.step haf
                have hI9 := (HI.out.gr0 HG9.out).cell hal
                rw [hb2] at hI9
                simp only [tI] at hI9
                have HB3 := Lib.hid hB3
                have hne : ((a : Int) == (f : Int)) = false := beq_eq_false_iff_ne.2 (by omega)
                clear hB3 haf
                go_wp2_with fail
                go_roundg m2
                case measure => omega
                case rel => exact ⟨b2, out ++ [a], out.length + 1, cap3, _, rfl, rfl, by simp, by omega, by simpa [zs] using HL9.out, HB3.out, HG9.out⟩
          · obtain ⟨m, rfl⟩ : ∃ m, n = m + 1 := ⟨Q0.length, by simpa using hn.symm⟩
            obtain ⟨w0, rfl⟩ : ∃ w0 : World, w0 = wr := ⟨_, rfl⟩
            have HLE := Lib.hid (HFN.out.le)
            obtain ⟨l, hcl, hll⟩ := HS.out.way t b HO.out
            have hl63 : l.length ≤ 63 := by have := cntT_le L.length T; simp only at hll; omega
            have HSH := Lib.hid (shortL_some HF.out (hcl.mono HLE.out))
            obtain ⟨a0, m0, ha0, hBK⟩ := BackAt.start hcl
            have hab : a0 = b := by have h1 := HO.out; rw [show T t = some a0 from ha0] at h1; simpa using h1
            subst hab
            have HBK := Lib.hid hBK
            have hctA : ∀ o, (w0.alloc o).cell? ⟨w.heap.size, t, none⟩ = some (.int .i64 (a0 : Int)) := fun o => ((Gr.refl w0 none).alloc o).cell hct (by simp)
            have hLS := Lst.one w0 (b0 := w.heap.size) (base := w0.heap.size) HG.out.size (Nat.le_refl _) (t : Int)
            have HTB := Lib.hid HS.out.tab
            clear hcl hll hBK ha0
            go_wp2_with fail
            obtain ⟨wD, hwD⟩ : ∃ wD : World, wD = w0.alloc (.cells #[.int .i64 (t : Int)] 3) := ⟨_, rfl⟩
            have hgD : Gr w0 wD none := by rw [hwD]; exact (Gr.refl _ _).alloc _
            rw [← hwD] at hLS ⊢
            have HGD := Lib.hid hgD
            obtain ⟨bs, hbs⟩ : ∃ bs, w0.heap.size = bs := ⟨_, rfl⟩
            rw [hbs] at hLS ⊢
            clear hwD hctA hgD
            go_loopg [14, 15] m0 (fun m s u wq => ∃ (a : Nat) (out : List Nat) (n cap : Nat) (ao : Option Addr), s = .slice ao n cap ∧ u = .int .i64 a ∧ n = out.length ∧ 0 < n ∧ Lst wq w.heap.size bs (zs out) ao n cap ∧ BackAt T f l a out m ∧ Gr w0 wq none)
            case atStart => exact ⟨a0, [t], 1, 1, _, rfl, rfl, rfl, by omega, hLS, HBK.out, HGD.out⟩
            case round =>
              obtain ⟨a, out, _, cap2, ao2, rfl, rfl, rfl, hn0, hL2, hB2, hg2⟩ := hrel
              have HL2 := Lib.hid hL2
              have HB2 := Lib.hid hB2
              have HG2 := Lib.hid hg2
              have hlen2 := hB2.lt
              have hbsz : bs ≤ wr.heap.size := by have := hg2.size; omega
              have hI2 := HI.out.gr0 hg2
              clear hL2 hB2 hLS hg2
              go_upto_region 24 with (at_builtin; refine app_l wr _ rfl (.tmp 90) (.tmp 92) rfl w.heap.size bs ao2 cap2 out.length _ (a : Int) rfl HL2.out ((Gr.refl _ _).alloc _) wr.heap.size 1 rfl (cell_of_row _ _ _ _ _ _ (heap1_0 _ _)) (by omega) hbsz ?_; rintro g cap3 w9 hL9 hg9)
              have HG9 := Lib.hid (hg9 _ (HG2.out.alloc _) (by omega))
              have HL9 := Lib.hid hL9
              have hal : a < L.length := by
                obtain ⟨pre, suf, -, -, -, h5⟩ := HB2.out
                rcases h5 with ⟨h5, -⟩ | ⟨-, h5⟩
                · omega
                · obtain ⟨c, hc⟩ := h5.has; exact (HTB.out _ _ hc).1
              clear hL9 hg9 hI2
              by_cases haf : a = f
              · subst haf
                have HLA := Lib.hid HB2.out.last
                obtain ⟨g9, e9, hb9, hlt9, hf9, hc9⟩ := HL9.out.blk (by omega)
                cases e9
                have hzs : zs out ++ [(a : Int)] = zs (out ++ [a]) := by simp [zs]
                have hIN := HL9.out.ints
                rw [hzs] at hIN
                have hzl : (zs (out ++ [a])).length = out.length + 1 := by rw [zs_length]; simp
                have hrv := rev_any (zs (out ++ [a])) g 0 cap3 w9 hIN (by omega) hf9
                rw [hzl] at hrv
                have HZL := Lib.hid hzl
                have HRV := Lib.hid hrv
                clear hIN hzl hzs hf9 hrv
                go_wp2_with fail
                refine HRV.out.mono ?_
                rintro e w10 ⟨rfl, hin, hfz, hgr⟩
                have HIN := Lib.hid hin
                have HFZ := Lib.hid hfz
                have HGR := Lib.hid hgr
                clear hin hfz hgr
                go_wp2_with fail
                go_ret2
                rw [HSH.out]
                exact shortOk_hand HLA.out HL9.out rfl HZL.out HIN.out HFZ.out HGR.out (HG.out) HG9.out hbs hb9 hc9
              · obtain ⟨b2, m2, hb2, hB3, hlt3⟩ := HB2.out.step haf
                have hI9 := (HI.out.gr0 HG9.out).cell hal
                rw [hb2] at hI9
                simp only [tI] at hI9
                have HB3 := Lib.hid hB3
                have hne : ((a : Int) == (f : Int)) = false := beq_eq_false_iff_ne.2 (by omega)
                clear hB3 haf
                go_wp2_with fail
                go_roundg m2
                case measure => omega
                case rel => exact ⟨b2, out ++ [a], out.length + 1, cap3, _, rfl, rfl, by simp, by omega, by simpa [zs] using HL9.out, HB3.out, HG9.out⟩
        | none =>
          simp only [Option.isNone_none, tI] at hneg hct
          rcases Q with _ | ⟨k, Q0⟩
          · obtain rfl : n = 0 := by simpa using hn.symm
            have HFE := Lib.hid (fin_nil HFN.out)
            have HSH := Lib.hid (shortL_none HF.out (t := t) (by rw [← HFE.out]; exact HO.out))
            go_wp2_with fail
            go_ret2
            rw [HSH.out]
            exact shortOk_nil _ _ HG.out
          · obtain ⟨w1, rfl⟩ : ∃ w1 : World, w1 = wr := ⟨_, rfl⟩
            obtain ⟨m, hm⟩ : ∃ m, Q0.length = m := ⟨_, rfl⟩
            obtain rfl : n = m + 1 := by simp at hn; omega
            clear hn
            have hk : k < L.length := (HS.out.que k (by simp)).1
            have HKF := Lib.hid (HS.out.que k (by simp)).2
            have hQl : w1.cell? ⟨gq, off, none⟩ = some (.int .i64 (k : Int)) := by
              have := HQ.out.cell (j := 0) (by simp [zs])
              simpa [zs] using this
            have hQp : Que w1 (w.heap.size + 1) gq (off + 1) m (cap - 1) (zs Q0) := by
              have hz : zs (k :: Q0) = (k : Int) :: zs Q0 := rfl
              have h1 := HQ.out
              rw [hz] at h1
              have := h1.tail
              rw [zs_length, hm] at this
              exact this
            have HQ := Lib.hid hQp
            have hmb : m ≤ 200 := by have := HGE.out; unfold leftT at this; simp at this; omega
            obtain ⟨bp, po, rfl, an, cn, -, -, -, -, c4, hin, -⟩ := HP.out k hk
            replace c4 := HG.out.cell c4 (by simp)
            have d2' := HG.out.cell d2 (by simp)
            obtain ⟨N, hN⟩ : ∃ N, nextOf L k = N := ⟨_, rfl⟩
            have hqN : L[k].next = N := by rw [← nextOf_get hk, hN]
            have hNl : N.length ≤ 2 := by rw [← hN]; exact (HOK.out k hk).1
            have HNL := Lib.hid (show ∀ j ∈ N, j < L.length by rw [← hN]; exact (HOK.out k hk).2)
            rw [hqN] at c4 hin
            have HIN := Lib.hid hin
            have HN := Lib.hid hN
            clear hin hQp hqN hN d2
            go_upto_region 10 with fail
            go_cut [10] (fun s8 wx => ∃ off1, s8 = .slice (some ⟨gq, off1, none⟩) m (cap - 1) ∧ w1 = wx ∧ Que w1 (w.heap.size + 1) gq off1 m (cap - 1) (zs Q0))
            case first =>
              by_cases hc1 : cap = 1
              · subst hc1
                have hq0 : Que w1 (w.heap.size + 1) gq off m (1 - 1) (zs Q0) := ⟨HQ.out.1, HQ.out.2.1, HQ.out.2.2.1, HQ.out.2.2.2.1, fun j hj => by omega, fun j u hu => by
                  have := (List.getElem?_eq_some_iff.1 hu).1
                  have := HQ.out.2.2.1
                  rw [ints_length] at *
                  omega⟩
                have HQ0 := Lib.hid hq0
                clear hq0
                go_wp2_with fail
                go_meet
                have hm0 : m = 0 := by omega
                subst hm0
                exact ⟨off, rfl, rfl, HQ0.out⟩
              · go_wp2_with fail
                go_meet
                exact ⟨off + 1, rfl, rfl, HQ.out⟩
            case rest =>
            clear HQ hQl
            obtain ⟨off1, rfl, rfl, hQ1⟩ := hcut
            have HQ := Lib.hid hQ1
            clear hQ1
            go_wp2_with fail
            go_loopw [10, 57] (fun s u wq => ∃ (i gq off n cap : Nat), i ≤ N.length ∧ u = .int .i64 i ∧ s = .slice (some ⟨gq, off, none⟩) n cap ∧ n ≤ 300 ∧ (visits k (T, Q0) (N.take i)).2.length = n ∧
              Que wq (w.heap.size + 1) gq off n cap (zs (visits k (T, Q0) (N.take i)).2) ∧ IRow wq w.heap.size L.length (fun j => tI ((visits k (T, Q0) (N.take i)).1 j)) ∧ Gr w wq none) (fun _ u _ => N.length - (intOf u).toNat)
            case atStart => exact ⟨0, gq, off1, m, cap - 1, by omega, rfl, rfl, by omega, hm, HQ.out, HI.out, HG.out⟩
            case round =>
              obtain ⟨i, gq2, off2, n2, cap2, hi, rfl, rfl, hn2, hql, hQ2, hI2, hG2⟩ := hrel
              obtain ⟨wi, rfl⟩ : ∃ wi : World, wi = wr := ⟨_, rfl⟩
              by_cases hlt : i < N.length
              · obtain ⟨bn, on, rfl, -, hci⟩ := HIN.out.at (i := i) (by rw [zs_length]; exact hlt)
                obtain ⟨x, hx⟩ : ∃ x, N[i] = x := ⟨_, rfl⟩
                have hxl : x < L.length := HNL.out x (by rw [← hx]; exact List.getElem_mem _)
                have hzi : (zs N)[i]'(by rw [zs_length]; exact hlt) = (x : Int) := by rw [← hx]; simp [zs]
                rw [hzi] at hci
                replace hci := hG2.cell hci (by simp)
                have htk : visits k (T, Q0) (N.take (i + 1)) = visit k (visits k (T, Q0) (N.take i)) x := by rw [visits_take hlt, hx]
                obtain ⟨S, hS⟩ : ∃ S, visits k (T, Q0) (N.take i) = S := ⟨_, rfl⟩
                rw [hS] at hql hQ2 hI2 htk
                have hcx := hI2.cell hxl
                have hfx := hI2.free x
                have HQ2 := Lib.hid hQ2
                have HI2 := Lib.hid hI2
                have HG2 := Lib.hid hG2
                have HQL := Lib.hid hql
                have hqb := hQ2.1
                have hiu := hI2.upd x k
                have hgs := own_set wi w.heap.size x (.int .i64 (k : Int))
                have hwi := hI2.lt
                clear hQ2 hI2 hG2 hql hx hzi hS
                have htx := tI_neg (o := S.1 x)
                obtain ⟨o, ho⟩ : ∃ o, S.1 x = o := ⟨_, rfl⟩
                rw [ho] at hcx htx
                have HTK := Lib.hid htk
                clear htk
                cases o with
                | some c =>
                  have hv : visit k S x = S := by unfold visit; rw [if_neg (by rw [ho]; simp)]
                  simp only [Option.isNone_some, tI] at htx hcx
                  rw [hv] at HTK
                  clear ho hv
                  go_wp2_with fail
                  go_roundw
                  case rel => exact ⟨i + 1, gq2, off2, n2, cap2, by omega, by go_num, rfl, hn2, by rw [HTK.out]; exact HQL.out, by rw [HTK.out]; exact HQ2.out, by rw [HTK.out]; exact HI2.out, HG2.out⟩
                  case measure => simp [intOf]; omega
                | none =>
                  have hv : visit k S x = (updT S.1 x k, S.2 ++ [x]) := by unfold visit; rw [if_pos ho]
                  simp only [Option.isNone_none, tI] at htx hcx
                  rw [hv] at HTK
                  have hb : n2 + 1 ≤ 300 := by
                    have h1 := visits_left (n := L.length) (a := k) (s := (T, Q0)) (l := N.take (i + 1)) (fun j hj => HNL.out j (List.mem_of_mem_take hj))
                    rw [HTK.out] at h1
                    have h2 : leftT L.length (T, Q0) + 1 = gk := by rw [HGE.out]; unfold leftT; simp; omega
                    have h3 : (S.2 ++ [x]).length ≤ leftT L.length (updT S.1 x k, S.2 ++ [x]) := by unfold leftT; simp only; omega
                    have h4 := HQL.out
                    simp only [List.length_append, List.length_cons, List.length_nil] at h3
                    omega
                  have hqs : Que (wi.setCell ⟨w.heap.size, x, none⟩ (.int .i64 (k : Int))) (w.heap.size + 1) gq2 off2 n2 cap2 (zs S.2) := HQ2.out.gr hgs (by simp; omega)
                  have hGs : Gr w (wi.setCell ⟨w.heap.size, x, none⟩ (.int .i64 (k : Int))) none := HG2.out.setNew (Nat.le_refl _) _
                  have hga := (Gr.refl (wi.setCell ⟨w.heap.size, x, none⟩ (.int .i64 (k : Int))) none).alloc (.cells #[.int .i64 (x : Int)] 3)
                  have hq3 := hqs.gr hga (by simp)
                  have hi3 := hiu.gr0 hga
                  have hG3 := hGs.trans0 hga
                  have hia : InAt ((wi.setCell ⟨w.heap.size, x, none⟩ (.int .i64 (k : Int))).alloc (.cells #[.int .i64 (x : Int)] 3)) Any [(x : Int)] (some ⟨wi.heap.size, 0, none⟩) := by
                    refine InAt.of fun j hj => ⟨trivial, ?_⟩
                    obtain rfl : j = 0 := by simp at hj; omega
                    rw [cell_of_row _ _ _ _ _ _ (by simpa using heap1_0 (wi.setCell ⟨w.heap.size, x, none⟩ (.int .i64 (k : Int))) (.cells #[.int .i64 (x : Int)] 3))]; rfl
                  have HQ3 := Lib.hid hq3
                  have HI3 := Lib.hid hi3
                  have HG3 := Lib.hid hG3
                  have HIA := Lib.hid hia
                  clear ho hv hqs hGs hga hq3 hi3 hG3 hia hiu
                  go_wp2_with (at_builtin; refine app_q _ rfl (.tmp 70) (.tmp 72) rfl (w.heap.size + 1) gq2 off2 n2 cap2 (zs S.2) rfl HQ3.out (some ⟨wi.heap.size, 0, none⟩) 1 [(x : Int)] rfl HIA.out (by simp; omega) ?_; rintro gq' off' cap' w' hQ' hg')
                  go_roundw
                  case rel => exact ⟨i + 1, gq', off', n2 + 1, cap', by omega, by go_num, rfl, hb, by rw [HTK.out]; simp [HQL.out], by rw [HTK.out]; simpa [zs] using hQ', by rw [HTK.out]; exact HI3.out.gr hg' (by simp; omega), HG3.out.trans hg' (fun r hr => .inr (by simp at hr; omega))⟩
                  case measure => simp [intOf]; omega
              · obtain rfl : i = N.length := by omega
                rw [List.take_length] at hql hQ2 hI2
                have HQ2 := Lib.hid hQ2
                have HI2 := Lib.hid hI2
                have HG2 := Lib.hid hG2
                have HQL := Lib.hid hql
                have hle := visits_left (n := L.length) (a := k) (s := (T, Q0)) HNL.out
                have hgk : leftT L.length (T, Q0) + 1 = gk := by rw [HGE.out]; unfold leftT; simp; omega
                clear hQ2 hI2 hG2 hql
                go_wp2_with fail
                go_roundg (leftT L.length (visits k (T, Q0) N))
                case measure => omega
                case rel => exact ⟨(visits k (T, Q0) N).1, (visits k (T, Q0) N).2, n2, gq2, off2, cap2, rfl, by omega, rfl, HQL.out, HQ2.out, HI2.out, HS.out.pop.visits hk HKF.out HNL.out, by rw [← HN.out]; exact fin_pop HFN.out, HG2.out⟩
end Go.Proofs.Ytadidppbhpdnkaa
