/- What is needed behind a point: the walk of l3Live of the reference. -/
import Derived.Test.YtdnhinkjmjpnnaaDD

import Derived.Test.YtdnhinkjmjpnnaaF3

import Derived.Deep.RegionHeld3

namespace Go.Proofs.Ytdnhinkjmjpnnaa

open Go.RowKit

/-- What has been met: all of the points above a, of a itself the first j of what comes next, and of the next one the variables below u. -/
def QQ (L : List Pt) (m a j u : Nat) (i k v : Nat) : Prop := (a < i ∧ i < L.length ∧ k ∈ nextOf L i ∧ v < m) ∨ (i = a ∧ v < m ∧ ∃ j', j' < j ∧ (nextOf L a)[j']? = some k) ∨ (i = a ∧ v < u ∧ (nextOf L a)[j]? = some k)
def QI (L : List Pt) (m a : Nat) (i k v : Nat) : Prop := a ≤ i ∧ i < L.length ∧ k ∈ nextOf L i ∧ v < m
theorem QQ.enter {L : List Pt} {m a : Nat} (i k v : Nat) (h : QQ L m a 0 0 i k v) : QI L m (a + 1) i k v := by
  rcases h with ⟨h1, h2⟩ | ⟨_, _, j', h, _⟩ | ⟨_, h, _⟩
  · exact ⟨by omega, h2⟩
  · omega
  · omega
theorem QQ.step {L : List Pt} {m a j u x : Nat} (hx : (nextOf L a)[j]? = some x) (i k v : Nat) (h : QQ L m a j (u + 1) i k v) : QQ L m a j u i k v ∨ (i = a ∧ k = x ∧ v = u) := by
  rcases h with h | h | ⟨h1, h2, h3⟩
  · exact .inl (.inl h)
  · exact .inl (.inr (.inl h))
  · by_cases e : v = u
    · rw [hx] at h3; exact .inr ⟨h1, by simpa using h3.symm, e⟩
    · exact .inl (.inr (.inr ⟨h1, by omega, h3⟩))
theorem QQ.next {L : List Pt} {m a j : Nat} (i k v : Nat) (h : QQ L m a (j + 1) 0 i k v) : QQ L m a j m i k v := by
  rcases h with h | ⟨h1, h2, j', h3, h4⟩ | ⟨_, h, _⟩
  · exact .inl h
  · by_cases e : j' = j
    · subst e; exact .inr (.inr ⟨h1, h2, h4⟩)
    · exact .inr (.inl ⟨h1, h2, j', by omega, h4⟩)
  · omega
theorem QQ.exit {L : List Pt} {m a j : Nat} (hj : (nextOf L a).length ≤ j) (i k v : Nat) (h : QI L m a i k v) : QQ L m a j 0 i k v := by
  obtain ⟨h1, h2, h3, h4⟩ := h
  by_cases e : i = a
  · subst e
    obtain ⟨j', hj', rfl⟩ := List.getElem_of_mem h3
    exact .inr (.inl ⟨rfl, h4, j', by omega, List.getElem?_eq_getElem hj'⟩)
  · exact .inl ⟨by omega, h2, h3, h4⟩
/-- A mark is set in a table. -/
theorem tab_set {wB wr w1 w4 : World} {gs : List Nat} {m i v : Nat} {ao : Option Addr} {F : Nat → Nat → Bool} (hF : RowsF wr gs m F) (hw : Gr wr w1 none) (hn : gs.Nodup) (hi : i < gs.length) (hg : Gr w1 w4 (some gs[i])) (hR : Row w4 gs[i] m (fun j => if j = v then true else F i j))
    (hT : RowsAt 1 wr Any (gs.map (gRow m)) ao) (hoff : ∀ g ∈ gs, ob ao ≠ some g) (hgs : ∀ g ∈ gs, wB.heap.size ≤ g) (hG : Gr wB wr none) :
    RowsF w4 gs m (setT F i v) ∧ RowsAt 1 w4 Any (gs.map (gRow m)) ao ∧ Gr wB w4 none :=
  ⟨(hF.gr0 hw).upd hn hi hg (hR.congr fun j _ => by unfold setT; simp) (fun u hu => funext fun j => by unfold setT; simp [hu]), (hT.gr0 hw).off hg (fun b hb e => hoff _ (List.getElem_mem hi) (by rw [hb]; exact e.symm)), (hG.trans0 hw).trans hg (fun x e => .inr (by cases e; exact hgs _ (List.getElem_mem hi)))⟩
/-- A table of a row for each point is handed back. -/
def TabledN (n m : Nat) (F : Nat → Nat → Bool) (w : World) (e : Ending) (w' : World) : Prop :=
  ∃ (a : Option Addr) (c : Nat) (gs : List Nat), gs.length = n ∧ e = .returned (.slice a n c) ∧ RowsAt 1 w' Any (gs.map (gRow m)) a ∧ RowsF w' gs m F ∧ Gr w w' none
theorem back_done {p : Pr} {B : List (Nat × Nat)} {F0 F : Nat → Nat → Bool} (h : BkR B (pts p) (usL p.types (pts p)) (nsL (pts p)) F0 F false (QI (pts p) p.types.length 0)) (i v : Nat) : F i v = liveB p i v := by
  obtain ⟨h1, h2, h3, h4⟩ := h
  rw [Bool.eq_iff_iff, liveB_iff]
  refine Least.done h1 ?_ i v
  rintro i v ⟨hi, k, hk, hu⟩
  have hkl := (pts_next p i hi).2 k hk
  refine (h4 rfl).2 i k v ⟨Nat.zero_le _, hi, hk, ?_⟩ hu
  rcases Nat.lt_or_ge v p.types.length with h | h
  · exact h
  · exfalso
    rcases hu with hu | ⟨_, hu⟩
    · rw [usL_hi h] at hu; cases hu
    · have := liveB_iff.2 (h1 k v hu)
      rw [liveB_hi hkl h] at this; cases this
set_option maxRecDepth 100000 in
set_option maxHeartbeats 8000000 in
theorem l3Live_any (p : Pr) (at' ab : Option Addr) (ct cb : Nat) (w : World) (hT : InAt w Any p.types at') (hB : SlAt w Any p.body ab) (hv : validP p = true) :
    Calls Try.prog 102 #[.agg #[.slice at' p.types.length ct, .slice ab p.body.length cb]] w (TabledN (pts p).length p.types.length (liveB p) w) := by
  have hcnt := valid_count hv
  have hlc := count_length p.body
  have hpl : p.types.length ≤ 6 := valid_types hv
  have hml : (pts p).length ≤ 61 := pts_len hv
  have HNX := Lib.hid (pts_next p)
  clear hv
  have hg1 : ∀ o, Gr w (w.alloc o) none := fun o => (Gr.refl _ _).alloc _
  have HT0 := Lib.hid hT
  go_enter Try.func102, Try.ntmps102
  go_wp2_with fail
  refine (l2Points_any p at' ab ct cb _ (hB.gr0 (hg1 _)) (by omega) (by unfold maxLen; omega)).mono ?_
  rintro e w1 ⟨L, am, c, hM, rfl, hown, hg⟩
  have hG1 : Gr w w1 none := (hg1 _).trans0 hg
  have HM := Lib.hid hM
  have HR := Lib.hid hown.read
  rw [← hM] at hml HNX
  have q0 : w1.cell? ⟨w.heap.size, 0, none⟩ = some (.slice at' p.types.length ct) := hg.cell (p := ⟨w.heap.size, 0, none⟩) (cell_of_row _ _ _ _ _ _ (heap1_0 _ _)) (by simp)
  clear hM hown hg hB hT
  have hE : (w1.alloc (.cells #[] 75)).heap[w1.heap.size]? = some (.cells #[] 75 (0, 0)) := heap1_0 _ _
  have hmk := fun w : World => run_make_row' (P := Try.prog) 75 4 (.bool false) 1 Try.underlying75 Binfo rfl .i64 .i64 p.types.length (by omega) (by omega) w
  go_wp2_with fail
  obtain ⟨wB, hwB⟩ : ∃ wB : World, wB = w1.alloc (.cells #[] 75) := ⟨_, rfl⟩
  have hgB : Gr w1 wB none := by rw [hwB]; exact (Gr.refl _ _).alloc _
  have hszB : w1.heap.size < wB.heap.size := by rw [hwB]; simp
  replace q0 := hgB.cell q0 (by simp)
  have hGB : Gr w wB none := hG1.trans0 hgB
  have HRB := Lib.hid (HR.out.gr hgB)
  have HTB' := Lib.hid (HT0.out.gr0 hGB)
  rw [← hwB] at hE ⊢
  have HQB := Lib.hid q0
  clear hwB
  have hL0 : LstR 75 1 wB w1.heap.size wB.heap.size (([] : List Nat).map (gRow p.types.length)) (some ⟨w1.heap.size, 0, none⟩) 0 0 := LstR.empty hgB.size (Nat.le_refl _) hE
  have HGB := Lib.hid hGB
  clear hgB hGB hE hG1 HR HT0
  go_loopw [4, 5] (fun v i wr => ∃ (k cap : Nat) (ao : Option Addr) (gs : List Nat), k ≤ L.length ∧ i = .int .i64 k ∧ v = .slice ao k cap ∧ gs.length = k ∧ gs.Nodup ∧ LstR 75 1 wr w1.heap.size wB.heap.size (gs.map (gRow p.types.length)) ao k cap ∧ RowsF wr gs p.types.length (fun _ _ => false) ∧ (∀ g ∈ gs, wB.heap.size ≤ g) ∧ Gr wB wr none) (fun _ i _ => L.length - (intOf i).toNat)
  case atStart => exact ⟨0, 0, _, [], Nat.zero_le _, rfl, rfl, rfl, List.nodup_nil, hL0, fun v hv => absurd hv (by simp), by simp, Gr.refl _ _⟩
  case round =>
    obtain ⟨k, cap, ao, gs, hk, rfl, rfl, hgl, hnd, hLs, hRF, hgs, hg⟩ := hrel
    have HLS := Lib.hid hLs
    have HRF := Lib.hid hRF
    have HND := Lib.hid hnd
    have HGS := Lib.hid hgs
    clear hLs hRF hnd hgs
    replace q0 := hg.cell HQB.out (by simp)
    by_cases hlt : k < L.length
    · have hR0 : Row (wr.alloc (.cells (madeCells #[.bool false] p.types.length) 4)) wr.heap.size p.types.length (fun _ => false) := Row.new wr p.types.length
      have HR0 := Lib.hid hR0
      clear hR0
      go_wp2_with (at_builtin; refine app_row wr _ rfl (.tmp 21) (.tmp 26) rfl w1.heap.size wB.heap.size ao cap k p.types.length wr.heap.size gs rfl HLS.out (((Gr.refl _ _).alloc _).alloc _) (wr.heap.size + 1) 1 rfl (heap2_1 _ _ _) (by omega) hg.size ?_; rintro g cap' w4 hL4 hg4 hgo)
      go_roundw
      case rel =>
        refine ⟨k + 1, cap', some ⟨g, 0, none⟩, gs ++ [wr.heap.size], by omega, by go_num, rfl, by simp [hgl], ?_, hL4, HRF.out.grow HLS.out (((Gr.refl _ _).alloc _).alloc _) ?_ hgo, ?_, hg4 _ ((hg.alloc _).alloc _) (Nat.le_refl _)⟩
        · rw [List.nodup_append]
          refine ⟨HND.out, by simp, ?_⟩
          intro x hx y hy
          have := HRF.out.lt x hx
          simp at hy
          omega
        · exact HR0.out.gr0 ((Gr.refl _ _).alloc _)
        · intro x hx
          rcases List.mem_append.1 hx with hx | hx
          · exact HGS.out x hx
          · simp at hx; subst hx; exact hg.size
      case measure => simp [intOf]; omega
    · obtain rfl : k = L.length := by omega
      have HOFF := Lib.hid (gs_off HRF.out HLS.out)
      have HTB := Lib.hid HLS.out.rows
      have HGC := Lib.hid hg
      clear hg hL0 hmk hgl
      have hgl : gs.length = L.length := HLS.out.1 ▸ (by simp)
      have HGL := Lib.hid hgl
      clear hgl
      go_wp2_with fail
      go_loopg [6] (leftG (boxL L.length p.types.length) (fun _ _ => false) true) (fun gh s wq => ∃ (c : Bool) (F : Nat → Nat → Bool), gh = leftG (boxL L.length p.types.length) F c ∧ s = .bool c ∧ (∀ i v, F i v = true → Least (BackS L (usL p.types L) (nsL L)) i v) ∧ (c = false → F = liveB p) ∧ RowsF wq gs p.types.length F ∧ RowsAt 1 wq Any (gs.map (gRow p.types.length)) ao ∧ Gr wB wq none)
      case atStart => exact ⟨true, fun _ _ => false, rfl, rfl, (fun i v h => by cases h), (fun h => by cases h), HRF.out, HTB.out, HGC.out⟩
      case round =>
        obtain ⟨c, F, rfl, rfl, hS, hD, hF, hTb, hG⟩ := hrel
        have HS := Lib.hid hS
        have HD := Lib.hid hD
        have HF0 := Lib.hid hF
        have HT2 := Lib.hid hTb
        have HG2 := Lib.hid hG
        clear hS hD hF hTb hG
        cases c with
        | false =>
          go_wp2_with fail
          go_ret
          have hFL : F = liveB p := by first | exact HD.out rfl | exact HD.out trivial
          refine ⟨ao, cap, gs, by rw [HGL.out, HM.out], by rw [← HM.out]; rfl, HT2.out, ?_, HGB.out.trans0 HG2.out⟩
          rw [← hFL]; exact HF0.out
        | true =>
          go_wp2_with fail
          go_loopw [6, 7] (fun s i wq => ∃ (c : Bool) (F2 : Nat → Nat → Bool) (a : Nat) (z : Int), a ≤ L.length ∧ s = .bool c ∧ i = .int .i64 z ∧ z = (a : Int) - 1 ∧ BkR (boxL L.length p.types.length) L (usL p.types L) (nsL L) F F2 c (QI L p.types.length a) ∧ RowsF wq gs p.types.length F2 ∧ RowsAt 1 wq Any (gs.map (gRow p.types.length)) ao ∧ Gr wB wq none) (fun _ i _ => (intOf i + 1).toNat)
          case atStart => exact ⟨false, F, L.length, _, Nat.le_refl _, rfl, rfl, by omega, (BkR.start HS.out).mono (fun i k v h => absurd h.1 (by have := h.2.1; omega)), HF0.out, HT2.out, HG2.out⟩
          case round =>
            obtain ⟨c, F2, a, z, ha, rfl, rfl, hz, hR, hF, hTb, hG⟩ := hrel
            have HR := Lib.hid hR
            have HF2 := Lib.hid hF
            have HT2 := Lib.hid hTb
            have HG2 := Lib.hid hG
            clear hR hF hTb hG
            rcases a with _ | a
            · obtain rfl : z = -1 := by omega
              clear hz
              go_wp2_with fail
              go_roundg (leftG (boxL L.length p.types.length) F2 c)
              case measure => exact HR.out.left
              case rel => exact ⟨c, F2, rfl, rfl, HR.out.1, (fun h => by subst h; have hR := HR.out; rw [HM.out] at hR; funext i v; exact back_done hR i v), HF2.out, HT2.out, HG2.out⟩
            · obtain rfl : z = (a : Int) := by omega
              have haL : a < L.length := by omega
              have hi1 : (0 : Int) ≤ (a : Int) := by omega
              clear hz
              go_wp2_with fail
              go_loopw [6, 8] (fun s i wq => ∃ (c : Bool) (F2 : Nat → Nat → Bool) (j : Nat), j ≤ (nextOf L a).length ∧ s = .bool c ∧ i = .int .i64 j ∧ BkR (boxL L.length p.types.length) L (usL p.types L) (nsL L) F F2 c (QQ L p.types.length a j 0) ∧ RowsF wq gs p.types.length F2 ∧ RowsAt 1 wq Any (gs.map (gRow p.types.length)) ao ∧ Gr wB wq none) (fun _ i _ => (nextOf L a).length - (intOf i).toNat)
              case atStart => exact ⟨c, F2, 0, Nat.zero_le _, rfl, rfl, HR.out.mono QQ.enter, HF2.out, HT2.out, HG2.out⟩
              case round =>
                obtain ⟨c, F2, j, hj, rfl, rfl, hR, hF, hTb, hG⟩ := hrel
                have HR := Lib.hid hR
                have HF2 := Lib.hid hF
                have HT2 := Lib.hid hTb
                have HG2 := Lib.hid hG
                obtain ⟨b, po, rfl, an, cn, -, -, -, -, c4, hin, -⟩ := (HRB.out.gr hG) a haL
                rw [← nextOf_get haL] at c4 hin
                rw [← zs_length] at c4
                obtain ⟨nn, hnn⟩ : ∃ nn, (zs (nextOf L a)).length = nn := ⟨_, rfl⟩
                have hnl : (nextOf L a).length = nn := by rw [← hnn, zs_length]
                have HNL := Lib.hid hnl
                have hjn : j ≤ nn := by omega
                have hn2 : nn ≤ 2 := by have := (HNX.out a (by omega)).1; omega
                rw [hnn] at c4
                clear hR hF hTb hnl hj hnn
                by_cases hlt2 : j < nn
                · have hjN : j < (nextOf L a).length := by rw [HNL.out]; exact hlt2
                  obtain ⟨b1, o1, rfl, -, c5⟩ := hin.at (i := j) (by rw [zs_length]; exact hjN)
                  obtain ⟨kk, hkk⟩ : ∃ kk, (nextOf L a)[j] = kk := ⟨_, rfl⟩
                  have hzk : (zs (nextOf L a))[j]'(by rw [zs_length]; exact hjN) = (kk : Int) := by rw [← hkk]; simp [zs]
                  rw [hzk] at c5
                  have HX := Lib.hid (show (nextOf L a)[j]? = some kk by rw [List.getElem?_eq_getElem hjN, hkk])
                  have HKM := Lib.hid (show kk ∈ nextOf L a by rw [← hkk]; exact List.getElem_mem hjN)
                  have hkL : kk < L.length := (HNX.out a haL).2 kk HKM.out
                  clear hkk hzk hjN hG hin
                  go_wp2_with fail
                  go_loopw [6, 10] (fun s i wq => ∃ (c : Bool) (F2 : Nat → Nat → Bool) (u : Nat), u ≤ p.types.length ∧ s = .bool c ∧ i = .int .i64 u ∧ BkR (boxL L.length p.types.length) L (usL p.types L) (nsL L) F F2 c (QQ L p.types.length a j u) ∧ RowsF wq gs p.types.length F2 ∧ RowsAt 1 wq Any (gs.map (gRow p.types.length)) ao ∧ Gr wB wq none) (fun _ i _ => p.types.length - (intOf i).toNat)
                  case atStart => exact ⟨c, F2, 0, Nat.zero_le _, rfl, rfl, HR.out, HF2.out, HT2.out, HG2.out⟩
                  case round =>
                    obtain ⟨c, F2, u, hu, rfl, rfl, hR, hF, hTb, hG⟩ := hrel
                    have HR := Lib.hid hR
                    have HF2 := Lib.hid hF
                    have HT2 := Lib.hid hTb
                    have HG2 := Lib.hid hG
                    have q0 := hG.cell HQB.out (by simp)
                    clear hR hF hTb c4 c5
                    by_cases hlt3 : u < p.types.length
                    · obtain ⟨b2, po2, e2, an2, cn2, d0, d1, d2, d3, d4, -, -⟩ := (HRB.out.gr hG) kk hkL
                      cases e2
                      obtain ⟨q, eq⟩ : ∃ q, L[kk] = q := ⟨_, rfl⟩
                      rw [eq] at d0 d1 d2 d3 d4
                      have HPA := Lib.hid ((ptAt_get hkL).trans eq)
                      obtain ⟨nq, hnq⟩ : ∃ nq, q.next.length = nq := ⟨_, rfl⟩
                      rw [hnq] at d4
                      have hkg : kk < gs.length := by rw [HGL.out]; exact hkL
                      have hag : a < gs.length := by rw [HGL.out]; exact haL
                      obtain ⟨bt, ot, rfl, t0⟩ := tab_cell HT2.out hkg
                      have f0 := (HF2.out kk hkg).cell hlt3
                      obtain ⟨gk, hgk⟩ : ∃ gk, gs[kk] = gk := ⟨_, rfl⟩
                      rw [hgk] at t0 f0
                      obtain ⟨UU, hUU⟩ : ∃ UU, useK p.types[u] q.op q.x q.y u = UU := ⟨_, rfl⟩
                      have hub := use_ne (op := q.op) (x := q.x) (y := q.y) hlt3
                      rw [hUU] at hub
                      have HU := Lib.hid hUU
                      obtain ⟨SS, hSS⟩ : ∃ SS, setOf q.op q.x = SS := ⟨_, rfl⟩
                      have HSS := Lib.hid hSS
                      have HNS := Lib.hid (show nsL L kk u = (SS != (u : Int)) by unfold nsL setsB; rw [HPA.out, hSS, Bool.eq_iff_iff]; simp)
                      have HUL := Lib.hid (show usL p.types L kk u = (UU != 0) by unfold usL; rw [HPA.out, ← hub])
                      obtain ⟨ub, hubb⟩ : ∃ ub, (UU != 0) = ub := ⟨_, rfl⟩
                      obtain ⟨fb, hfb⟩ : ∃ fb, F2 kk u = fb := ⟨_, rfl⟩
                      rw [hfb] at f0
                      rw [hubb] at HUL
                      have HFB := Lib.hid hfb
                      have HGU := Lib.hid hG
                      clear eq hnq hgk hUU hub hSS hfb hG
                      go_upto_region 20 with fail
                      go_cut [11] (fun s wx => s = .bool (ub || (fb && (SS != (u : Int)))) ∧ Gr wr wx none)
                      case first =>
                        cases ub with
                        | true =>
--<RA
                          refine wp_region_held_drew (S := fun w' => Gr wr w' none) (by kernel_rfl) ((Gr.refl _ _).drew) (fun hHeld => ?_)
                          refine wpAnyH_take (i := 0) (v := ?_) rfl (by kernel_rfl) (by kernel_rfl) (by kernel_rfl) (fun _ _ _ h => h) (Or.inl ⟨by rfl, ?_⟩) hHeld ?_
                          rotate_left
                          focus (intro wq hq; clear hq; go_simp; try with_reducible rfl)
                          simp only [Act.put, List.getElem_toArray, List.getElem_cons_zero, List.setIfInBounds_toArray, List.set_cons_zero, List.set_cons_succ]
                          refine wpAnyH_take (i := 1) (v := ?_) rfl (by kernel_rfl) (by kernel_rfl) (by kernel_rfl) (fun _ _ _ h => h) (Or.inl ⟨by rfl, ?_⟩) hHeld ?_
                          rotate_left
                          focus (intro wq hq; have k0 := hq.cell q0 (by simp); go_simp; try with_reducible rfl)
                          simp only [Act.put, List.getElem_toArray, List.getElem_cons_succ, List.getElem_cons_zero, List.setIfInBounds_toArray, List.set_cons_zero, List.set_cons_succ]
                          refine wpAnyH_take (i := 2) (v := ?_) rfl (by kernel_rfl) (by kernel_rfl) (by kernel_rfl) (fun _ _ _ h => h) (Or.inl ⟨by rfl, ?_⟩) hHeld ?_
                          rotate_left
                          focus (intro wq hq; clear hq; go_simp; try with_reducible rfl)
                          simp only [Act.put, List.getElem_toArray, List.getElem_cons_succ, List.getElem_cons_zero, List.setIfInBounds_toArray, List.set_cons_zero, List.set_cons_succ]
                          refine wpAnyH_take (i := 3) (v := ?_) rfl (by kernel_rfl) (by kernel_rfl) (by kernel_rfl) (fun _ _ _ h => h) (Or.inl ⟨by rfl, ?_⟩) hHeld ?_
                          rotate_left
                          focus (intro wq hq; clear hq; go_simp; try with_reducible rfl)
                          simp only [Act.put, List.getElem_toArray, List.getElem_cons_succ, List.getElem_cons_zero, List.setIfInBounds_toArray, List.set_cons_zero, List.set_cons_succ]
                          refine wpAnyH_take (i := 4) (v := ?_) rfl (by kernel_rfl) (by kernel_rfl) (by kernel_rfl) (fun _ _ _ h => h) (Or.inl ⟨by rfl, ?_⟩) hHeld ?_
                          rotate_left
                          focus (intro wq hq; clear hq; go_simp; try with_reducible rfl)
                          simp only [Act.put, List.getElem_toArray, List.getElem_cons_succ, List.getElem_cons_zero, List.setIfInBounds_toArray, List.set_cons_zero, List.set_cons_succ]
                          refine wpAnyH_take (i := 5) (v := ?_) rfl (by kernel_rfl) (by kernel_rfl) (by kernel_rfl) (fun _ _ _ h => h) (Or.inl ⟨by rfl, ?_⟩) hHeld ?_
                          rotate_left
                          focus (intro wq hq; have k0 := hq.cell d0 (by simp); have k1 := hq.cell d1 (by simp); have k2 := hq.cell d2 (by simp); have k3 := hq.cell d3 (by simp); have k4 := hq.cell d4 (by simp); go_simp; try with_reducible rfl)
                          simp only [Act.put, List.getElem_toArray, List.getElem_cons_succ, List.getElem_cons_zero, List.setIfInBounds_toArray, List.set_cons_zero, List.set_cons_succ]
                          refine wpAnyH_take (i := 6) (v := ?_) rfl (by kernel_rfl) (by kernel_rfl) (by kernel_rfl) (fun _ _ _ h => h) (Or.inl ⟨by rfl, ?_⟩) hHeld ?_
                          rotate_left
                          focus (intro wq hq; clear hq; go_simp; try with_reducible rfl)
                          simp only [Act.put, List.getElem_toArray, List.getElem_cons_succ, List.getElem_cons_zero, List.setIfInBounds_toArray, List.set_cons_zero, List.set_cons_succ]
                          refine wpAnyH_ready (rs := [7]) (by kernel_rfl) (by simp) ?_
                          refine AllReadyH.cons rfl (fun K hK => ?_) AllReadyH.nil
                          go_simp
                          refine (l3Use_any p.types at' ct q.op q.x q.y q.n (.slice an2 nq cn2) u hlt3 _ (HTB'.out.gr0 (HGU.out.trans0 hHeld)) (by omega)).mono ?_
                          rw [HU.out]
                          rintro e w3 ⟨rfl, hg3⟩
                          try dsimp only
                          refine hK.out _ _ (hHeld.trans0 hg3) (fun hHeld => ?_)
                          clear hK K
                          try simp only [Act.put, List.getElem_toArray, List.getElem_cons_succ, List.getElem_cons_zero, List.setIfInBounds_toArray, List.set_cons_zero, List.set_cons_succ]
                          refine wpAnyH_take (i := 8) (v := ?_) rfl (by kernel_rfl) (by kernel_rfl) (by kernel_rfl) (fun _ _ _ h => h) (Or.inl ⟨by rfl, ?_⟩) hHeld ?_
                          rotate_left
                          focus (intro wq hq; clear hq; go_simp; try with_reducible rfl)
                          simp only [Act.put, List.getElem_toArray, List.getElem_cons_succ, List.getElem_cons_zero, List.setIfInBounds_toArray, List.set_cons_zero, List.set_cons_succ]
                          refine wpAnyH_take (i := 9) (v := ?_) rfl (by kernel_rfl) (by kernel_rfl) (by kernel_rfl) (fun _ _ _ h => h) (Or.inl ⟨by rfl, ?_⟩) hHeld ?_
                          rotate_left
                          focus (intro wq hq; clear hq; go_simp; try with_reducible rfl)
                          simp only [Act.put, List.getElem_toArray, List.getElem_cons_succ, List.getElem_cons_zero, List.setIfInBounds_toArray, List.set_cons_zero, List.set_cons_succ]
                          refine wpAnyH_take (i := 10) (v := _) rfl (by kernel_rfl) (by kernel_rfl) (by kernel_rfl) (fun _ _ _ h => h) (Or.inr ⟨by rfl, rfl⟩) hHeld ?_
                          simp only [Act.put, List.getElem_toArray, List.getElem_cons_succ, List.getElem_cons_zero, List.setIfInBounds_toArray, List.set_cons_zero, List.set_cons_succ]
                          refine wpAnyH_take (i := 11) (v := _) rfl (by kernel_rfl) (by kernel_rfl) (by kernel_rfl) (fun _ _ _ h => h) (Or.inr ⟨by rfl, rfl⟩) hHeld ?_
                          simp only [Act.put, List.getElem_toArray, List.getElem_cons_succ, List.getElem_cons_zero, List.setIfInBounds_toArray, List.set_cons_zero, List.set_cons_succ]
                          refine wpAnyH_take (i := 12) (v := _) rfl (by kernel_rfl) (by kernel_rfl) (by kernel_rfl) (fun _ _ _ h => h) (Or.inr ⟨by rfl, rfl⟩) hHeld ?_
                          simp only [Act.put, List.getElem_toArray, List.getElem_cons_succ, List.getElem_cons_zero, List.setIfInBounds_toArray, List.set_cons_zero, List.set_cons_succ]
                          refine wpAnyH_take (i := 13) (v := _) rfl (by kernel_rfl) (by kernel_rfl) (by kernel_rfl) (fun _ _ _ h => h) (Or.inr ⟨by rfl, rfl⟩) hHeld ?_
                          simp only [Act.put, List.getElem_toArray, List.getElem_cons_succ, List.getElem_cons_zero, List.setIfInBounds_toArray, List.set_cons_zero, List.set_cons_succ]
                          refine wpAnyH_take (i := 14) (v := _) rfl (by kernel_rfl) (by kernel_rfl) (by kernel_rfl) (fun _ _ _ h => h) (Or.inr ⟨by rfl, rfl⟩) hHeld ?_
                          simp only [Act.put, List.getElem_toArray, List.getElem_cons_succ, List.getElem_cons_zero, List.setIfInBounds_toArray, List.set_cons_zero, List.set_cons_succ]
                          refine wpAnyH_take (i := 15) (v := _) rfl (by kernel_rfl) (by kernel_rfl) (by kernel_rfl) (fun _ _ _ h => h) (Or.inr ⟨by rfl, rfl⟩) hHeld ?_
                          simp only [Act.put, List.getElem_toArray, List.getElem_cons_succ, List.getElem_cons_zero, List.setIfInBounds_toArray, List.set_cons_zero, List.set_cons_succ]
                          refine wpAnyH_take (i := 16) (v := _) rfl (by kernel_rfl) (by kernel_rfl) (by kernel_rfl) (fun _ _ _ h => h) (Or.inr ⟨by rfl, rfl⟩) hHeld ?_
                          simp only [Act.put, List.getElem_toArray, List.getElem_cons_succ, List.getElem_cons_zero, List.setIfInBounds_toArray, List.set_cons_zero, List.set_cons_succ]
                          refine wpAnyH_take (i := 17) (v := _) rfl (by kernel_rfl) (by kernel_rfl) (by kernel_rfl) (fun _ _ _ h => h) (Or.inr ⟨by rfl, rfl⟩) hHeld ?_
                          simp only [Act.put, List.getElem_toArray, List.getElem_cons_succ, List.getElem_cons_zero, List.setIfInBounds_toArray, List.set_cons_zero, List.set_cons_succ]
                          refine wpAnyH_take (i := 18) (v := _) rfl (by kernel_rfl) (by kernel_rfl) (by kernel_rfl) (fun _ _ _ h => h) (Or.inr ⟨by rfl, rfl⟩) hHeld ?_
                          simp only [Act.put, List.getElem_toArray, List.getElem_cons_succ, List.getElem_cons_zero, List.setIfInBounds_toArray, List.set_cons_zero, List.set_cons_succ]
                          refine wpAnyH_take (i := 19) (v := _) rfl (by kernel_rfl) (by kernel_rfl) (by kernel_rfl) (fun _ _ _ h => h) (Or.inr ⟨by rfl, rfl⟩) hHeld ?_
                          simp only [Act.put, List.getElem_toArray, List.getElem_cons_succ, List.getElem_cons_zero, List.setIfInBounds_toArray, List.set_cons_zero, List.set_cons_succ]
                          refine wpAnyH_take (i := 20) (v := _) rfl (by kernel_rfl) (by kernel_rfl) (by kernel_rfl) (fun _ _ _ h => h) (Or.inr ⟨by rfl, rfl⟩) hHeld ?_
                          simp only [Act.put, List.getElem_toArray, List.getElem_cons_succ, List.getElem_cons_zero, List.setIfInBounds_toArray, List.set_cons_zero, List.set_cons_succ]
                          refine wpAnyH_take (i := 21) (v := _) rfl (by kernel_rfl) (by kernel_rfl) (by kernel_rfl) (fun _ _ _ h => h) (Or.inr ⟨by rfl, rfl⟩) hHeld ?_
                          simp only [Act.put, List.getElem_toArray, List.getElem_cons_succ, List.getElem_cons_zero, List.setIfInBounds_toArray, List.set_cons_zero, List.set_cons_succ]
                          refine wpAnyH_take (i := 22) (v := _) rfl (by kernel_rfl) (by kernel_rfl) (by kernel_rfl) (fun _ _ _ h => h) (Or.inr ⟨by rfl, rfl⟩) hHeld ?_
                          simp only [Act.put, List.getElem_toArray, List.getElem_cons_succ, List.getElem_cons_zero, List.setIfInBounds_toArray, List.set_cons_zero, List.set_cons_succ]
                          refine wpAnyH_take (i := 23) (v := _) rfl (by kernel_rfl) (by kernel_rfl) (by kernel_rfl) (fun _ _ _ h => h) (Or.inr ⟨by rfl, rfl⟩) hHeld ?_
                          simp only [Act.put, List.getElem_toArray, List.getElem_cons_succ, List.getElem_cons_zero, List.setIfInBounds_toArray, List.set_cons_zero, List.set_cons_succ]
                          refine wpAnyH_take (i := 24) (v := _) rfl (by kernel_rfl) (by kernel_rfl) (by kernel_rfl) (fun _ _ _ h => h) (Or.inr ⟨by rfl, rfl⟩) hHeld ?_
                          simp only [Act.put, List.getElem_toArray, List.getElem_cons_succ, List.getElem_cons_zero, List.setIfInBounds_toArray, List.set_cons_zero, List.set_cons_succ]
                          refine wpAnyH_take (i := 25) (v := _) rfl (by kernel_rfl) (by kernel_rfl) (by kernel_rfl) (fun _ _ _ h => h) (Or.inr ⟨by rfl, rfl⟩) hHeld ?_
                          simp only [Act.put, List.getElem_toArray, List.getElem_cons_succ, List.getElem_cons_zero, List.setIfInBounds_toArray, List.set_cons_zero, List.set_cons_succ]
                          refine wpAnyH_take (i := 26) (v := ?_) rfl (by kernel_rfl) (by kernel_rfl) (by kernel_rfl) (fun _ _ _ h => h) (Or.inl ⟨by rfl, ?_⟩) hHeld ?_
                          rotate_left
                          focus (intro wq hq; clear hq; go_simp; try with_reducible rfl)
                          simp only [Act.put, List.getElem_toArray, List.getElem_cons_succ, List.getElem_cons_zero, List.setIfInBounds_toArray, List.set_cons_zero, List.set_cons_succ]
                          refine wpAnyH_take (i := 27) (v := ?_) rfl (by kernel_rfl) (by kernel_rfl) (by kernel_rfl) (fun _ _ _ h => h) (Or.inl ⟨by rfl, ?_⟩) hHeld ?_
                          rotate_left
                          focus (intro wq hq; clear hq; go_simp; try with_reducible rfl)
                          simp only [Act.put, List.getElem_toArray, List.getElem_cons_succ, List.getElem_cons_zero, List.setIfInBounds_toArray, List.set_cons_zero, List.set_cons_succ]
                          refine wpAnyH_done (by kernel_rfl) ?_ _
                          go_wp2_with fail
                          go_meet
                          exact ⟨rfl, hHeld⟩
--RA>
                        | false =>
                          cases fb with
                          | false =>
--<RB
                            refine wp_region_held_drew (S := fun w' => Gr wr w' none) (by kernel_rfl) ((Gr.refl _ _).drew) (fun hHeld => ?_)
                            refine wpAnyH_take (i := 0) (v := ?_) rfl (by kernel_rfl) (by kernel_rfl) (by kernel_rfl) (fun _ _ _ h => h) (Or.inl ⟨by rfl, ?_⟩) hHeld ?_
                            rotate_left
                            focus (intro wq hq; clear hq; go_simp; try with_reducible rfl)
                            simp only [Act.put, List.getElem_toArray, List.getElem_cons_zero, List.setIfInBounds_toArray, List.set_cons_zero, List.set_cons_succ]
                            refine wpAnyH_take (i := 1) (v := ?_) rfl (by kernel_rfl) (by kernel_rfl) (by kernel_rfl) (fun _ _ _ h => h) (Or.inl ⟨by rfl, ?_⟩) hHeld ?_
                            rotate_left
                            focus (intro wq hq; have k0 := hq.cell q0 (by simp); go_simp; try with_reducible rfl)
                            simp only [Act.put, List.getElem_toArray, List.getElem_cons_succ, List.getElem_cons_zero, List.setIfInBounds_toArray, List.set_cons_zero, List.set_cons_succ]
                            refine wpAnyH_take (i := 2) (v := ?_) rfl (by kernel_rfl) (by kernel_rfl) (by kernel_rfl) (fun _ _ _ h => h) (Or.inl ⟨by rfl, ?_⟩) hHeld ?_
                            rotate_left
                            focus (intro wq hq; clear hq; go_simp; try with_reducible rfl)
                            simp only [Act.put, List.getElem_toArray, List.getElem_cons_succ, List.getElem_cons_zero, List.setIfInBounds_toArray, List.set_cons_zero, List.set_cons_succ]
                            refine wpAnyH_take (i := 3) (v := ?_) rfl (by kernel_rfl) (by kernel_rfl) (by kernel_rfl) (fun _ _ _ h => h) (Or.inl ⟨by rfl, ?_⟩) hHeld ?_
                            rotate_left
                            focus (intro wq hq; clear hq; go_simp; try with_reducible rfl)
                            simp only [Act.put, List.getElem_toArray, List.getElem_cons_succ, List.getElem_cons_zero, List.setIfInBounds_toArray, List.set_cons_zero, List.set_cons_succ]
                            refine wpAnyH_take (i := 4) (v := ?_) rfl (by kernel_rfl) (by kernel_rfl) (by kernel_rfl) (fun _ _ _ h => h) (Or.inl ⟨by rfl, ?_⟩) hHeld ?_
                            rotate_left
                            focus (intro wq hq; clear hq; go_simp; try with_reducible rfl)
                            simp only [Act.put, List.getElem_toArray, List.getElem_cons_succ, List.getElem_cons_zero, List.setIfInBounds_toArray, List.set_cons_zero, List.set_cons_succ]
                            refine wpAnyH_take (i := 5) (v := ?_) rfl (by kernel_rfl) (by kernel_rfl) (by kernel_rfl) (fun _ _ _ h => h) (Or.inl ⟨by rfl, ?_⟩) hHeld ?_
                            rotate_left
                            focus (intro wq hq; have k0 := hq.cell d0 (by simp); have k1 := hq.cell d1 (by simp); have k2 := hq.cell d2 (by simp); have k3 := hq.cell d3 (by simp); have k4 := hq.cell d4 (by simp); go_simp; try with_reducible rfl)
                            simp only [Act.put, List.getElem_toArray, List.getElem_cons_succ, List.getElem_cons_zero, List.setIfInBounds_toArray, List.set_cons_zero, List.set_cons_succ]
                            refine wpAnyH_take (i := 6) (v := ?_) rfl (by kernel_rfl) (by kernel_rfl) (by kernel_rfl) (fun _ _ _ h => h) (Or.inl ⟨by rfl, ?_⟩) hHeld ?_
                            rotate_left
                            focus (intro wq hq; clear hq; go_simp; try with_reducible rfl)
                            simp only [Act.put, List.getElem_toArray, List.getElem_cons_succ, List.getElem_cons_zero, List.setIfInBounds_toArray, List.set_cons_zero, List.set_cons_succ]
                            refine wpAnyH_ready (rs := [7]) (by kernel_rfl) (by simp) ?_
                            refine AllReadyH.cons rfl (fun K hK => ?_) AllReadyH.nil
                            go_simp
                            refine (l3Use_any p.types at' ct q.op q.x q.y q.n (.slice an2 nq cn2) u hlt3 _ (HTB'.out.gr0 (HGU.out.trans0 hHeld)) (by omega)).mono ?_
                            rw [HU.out]
                            rintro e w3 ⟨rfl, hg3⟩
                            try dsimp only
                            refine hK.out _ _ (hHeld.trans0 hg3) (fun hHeld => ?_)
                            clear hK K
                            try simp only [Act.put, List.getElem_toArray, List.getElem_cons_succ, List.getElem_cons_zero, List.setIfInBounds_toArray, List.set_cons_zero, List.set_cons_succ]
                            refine wpAnyH_take (i := 8) (v := ?_) rfl (by kernel_rfl) (by kernel_rfl) (by kernel_rfl) (fun _ _ _ h => h) (Or.inl ⟨by rfl, ?_⟩) hHeld ?_
                            rotate_left
                            focus (intro wq hq; clear hq; go_simp; try with_reducible rfl)
                            simp only [Act.put, List.getElem_toArray, List.getElem_cons_succ, List.getElem_cons_zero, List.setIfInBounds_toArray, List.set_cons_zero, List.set_cons_succ]
                            refine wpAnyH_take (i := 9) (v := ?_) rfl (by kernel_rfl) (by kernel_rfl) (by kernel_rfl) (fun _ _ _ h => h) (Or.inl ⟨by rfl, ?_⟩) hHeld ?_
                            rotate_left
                            focus (intro wq hq; clear hq; go_simp; try with_reducible rfl)
                            simp only [Act.put, List.getElem_toArray, List.getElem_cons_succ, List.getElem_cons_zero, List.setIfInBounds_toArray, List.set_cons_zero, List.set_cons_succ]
                            refine wpAnyH_take (i := 10) (v := ?_) rfl (by kernel_rfl) (by kernel_rfl) (by kernel_rfl) (fun _ _ _ h => h) (Or.inl ⟨by rfl, ?_⟩) hHeld ?_
                            rotate_left
                            focus (intro wq hq; clear hq; go_simp; try with_reducible rfl)
                            simp only [Act.put, List.getElem_toArray, List.getElem_cons_succ, List.getElem_cons_zero, List.setIfInBounds_toArray, List.set_cons_zero, List.set_cons_succ]
                            refine wpAnyH_take (i := 11) (v := ?_) rfl (by kernel_rfl) (by kernel_rfl) (by kernel_rfl) (fun _ _ _ h => h) (Or.inl ⟨by rfl, ?_⟩) hHeld ?_
                            rotate_left
                            focus (intro wq hq; clear hq; go_simp; try with_reducible rfl)
                            simp only [Act.put, List.getElem_toArray, List.getElem_cons_succ, List.getElem_cons_zero, List.setIfInBounds_toArray, List.set_cons_zero, List.set_cons_succ]
                            refine wpAnyH_take (i := 12) (v := ?_) rfl (by kernel_rfl) (by kernel_rfl) (by kernel_rfl) (fun _ _ _ h => h) (Or.inl ⟨by rfl, ?_⟩) hHeld ?_
                            rotate_left
                            focus (intro wq hq; clear hq; go_simp; try with_reducible rfl)
                            simp only [Act.put, List.getElem_toArray, List.getElem_cons_succ, List.getElem_cons_zero, List.setIfInBounds_toArray, List.set_cons_zero, List.set_cons_succ]
                            refine wpAnyH_take (i := 13) (v := ?_) rfl (by kernel_rfl) (by kernel_rfl) (by kernel_rfl) (fun _ _ _ h => h) (Or.inl ⟨by rfl, ?_⟩) hHeld ?_
                            rotate_left
                            focus (intro wq hq; have k0 := hq.cell t0 (by simp); go_simp; try with_reducible rfl)
                            simp only [Act.put, List.getElem_toArray, List.getElem_cons_succ, List.getElem_cons_zero, List.setIfInBounds_toArray, List.set_cons_zero, List.set_cons_succ]
                            refine wpAnyH_take (i := 14) (v := ?_) rfl (by kernel_rfl) (by kernel_rfl) (by kernel_rfl) (fun _ _ _ h => h) (Or.inl ⟨by rfl, ?_⟩) hHeld ?_
                            rotate_left
                            focus (intro wq hq; clear hq; go_simp; try with_reducible rfl)
                            simp only [Act.put, List.getElem_toArray, List.getElem_cons_succ, List.getElem_cons_zero, List.setIfInBounds_toArray, List.set_cons_zero, List.set_cons_succ]
                            refine wpAnyH_take (i := 15) (v := ?_) rfl (by kernel_rfl) (by kernel_rfl) (by kernel_rfl) (fun _ _ _ h => h) (Or.inl ⟨by rfl, ?_⟩) hHeld ?_
                            rotate_left
                            focus (intro wq hq; clear hq; go_simp; try with_reducible rfl)
                            simp only [Act.put, List.getElem_toArray, List.getElem_cons_succ, List.getElem_cons_zero, List.setIfInBounds_toArray, List.set_cons_zero, List.set_cons_succ]
                            refine wpAnyH_take (i := 16) (v := ?_) rfl (by kernel_rfl) (by kernel_rfl) (by kernel_rfl) (fun _ _ _ h => h) (Or.inl ⟨by rfl, ?_⟩) hHeld ?_
                            rotate_left
                            focus (intro wq hq; have k0 := hq.cell f0 (by simp); go_simp; try with_reducible rfl)
                            simp only [Act.put, List.getElem_toArray, List.getElem_cons_succ, List.getElem_cons_zero, List.setIfInBounds_toArray, List.set_cons_zero, List.set_cons_succ]
                            refine wpAnyH_take (i := 17) (v := ?_) rfl (by kernel_rfl) (by kernel_rfl) (by kernel_rfl) (fun _ _ _ h => h) (Or.inl ⟨by rfl, ?_⟩) hHeld ?_
                            rotate_left
                            focus (intro wq hq; clear hq; go_simp; try with_reducible rfl)
                            simp only [Act.put, List.getElem_toArray, List.getElem_cons_succ, List.getElem_cons_zero, List.setIfInBounds_toArray, List.set_cons_zero, List.set_cons_succ]
                            refine wpAnyH_take (i := 18) (v := _) rfl (by kernel_rfl) (by kernel_rfl) (by kernel_rfl) (fun _ _ _ h => h) (Or.inr ⟨by rfl, rfl⟩) hHeld ?_
                            simp only [Act.put, List.getElem_toArray, List.getElem_cons_succ, List.getElem_cons_zero, List.setIfInBounds_toArray, List.set_cons_zero, List.set_cons_succ]
                            refine wpAnyH_take (i := 19) (v := _) rfl (by kernel_rfl) (by kernel_rfl) (by kernel_rfl) (fun _ _ _ h => h) (Or.inr ⟨by rfl, rfl⟩) hHeld ?_
                            simp only [Act.put, List.getElem_toArray, List.getElem_cons_succ, List.getElem_cons_zero, List.setIfInBounds_toArray, List.set_cons_zero, List.set_cons_succ]
                            refine wpAnyH_take (i := 20) (v := _) rfl (by kernel_rfl) (by kernel_rfl) (by kernel_rfl) (fun _ _ _ h => h) (Or.inr ⟨by rfl, rfl⟩) hHeld ?_
                            simp only [Act.put, List.getElem_toArray, List.getElem_cons_succ, List.getElem_cons_zero, List.setIfInBounds_toArray, List.set_cons_zero, List.set_cons_succ]
                            refine wpAnyH_take (i := 21) (v := _) rfl (by kernel_rfl) (by kernel_rfl) (by kernel_rfl) (fun _ _ _ h => h) (Or.inr ⟨by rfl, rfl⟩) hHeld ?_
                            simp only [Act.put, List.getElem_toArray, List.getElem_cons_succ, List.getElem_cons_zero, List.setIfInBounds_toArray, List.set_cons_zero, List.set_cons_succ]
                            refine wpAnyH_take (i := 22) (v := _) rfl (by kernel_rfl) (by kernel_rfl) (by kernel_rfl) (fun _ _ _ h => h) (Or.inr ⟨by rfl, rfl⟩) hHeld ?_
                            simp only [Act.put, List.getElem_toArray, List.getElem_cons_succ, List.getElem_cons_zero, List.setIfInBounds_toArray, List.set_cons_zero, List.set_cons_succ]
                            refine wpAnyH_take (i := 23) (v := _) rfl (by kernel_rfl) (by kernel_rfl) (by kernel_rfl) (fun _ _ _ h => h) (Or.inr ⟨by rfl, rfl⟩) hHeld ?_
                            simp only [Act.put, List.getElem_toArray, List.getElem_cons_succ, List.getElem_cons_zero, List.setIfInBounds_toArray, List.set_cons_zero, List.set_cons_succ]
                            refine wpAnyH_take (i := 24) (v := _) rfl (by kernel_rfl) (by kernel_rfl) (by kernel_rfl) (fun _ _ _ h => h) (Or.inr ⟨by rfl, rfl⟩) hHeld ?_
                            simp only [Act.put, List.getElem_toArray, List.getElem_cons_succ, List.getElem_cons_zero, List.setIfInBounds_toArray, List.set_cons_zero, List.set_cons_succ]
                            refine wpAnyH_take (i := 25) (v := ?_) rfl (by kernel_rfl) (by kernel_rfl) (by kernel_rfl) (fun _ _ _ h => h) (Or.inl ⟨by rfl, ?_⟩) hHeld ?_
                            rotate_left
                            focus (intro wq hq; clear hq; go_simp; try with_reducible rfl)
                            simp only [Act.put, List.getElem_toArray, List.getElem_cons_succ, List.getElem_cons_zero, List.setIfInBounds_toArray, List.set_cons_zero, List.set_cons_succ]
                            refine wpAnyH_take (i := 26) (v := ?_) rfl (by kernel_rfl) (by kernel_rfl) (by kernel_rfl) (fun _ _ _ h => h) (Or.inl ⟨by rfl, ?_⟩) hHeld ?_
                            rotate_left
                            focus (intro wq hq; clear hq; go_simp; try with_reducible rfl)
                            simp only [Act.put, List.getElem_toArray, List.getElem_cons_succ, List.getElem_cons_zero, List.setIfInBounds_toArray, List.set_cons_zero, List.set_cons_succ]
                            refine wpAnyH_take (i := 27) (v := ?_) rfl (by kernel_rfl) (by kernel_rfl) (by kernel_rfl) (fun _ _ _ h => h) (Or.inl ⟨by rfl, ?_⟩) hHeld ?_
                            rotate_left
                            focus (intro wq hq; clear hq; go_simp; try with_reducible rfl)
                            simp only [Act.put, List.getElem_toArray, List.getElem_cons_succ, List.getElem_cons_zero, List.setIfInBounds_toArray, List.set_cons_zero, List.set_cons_succ]
                            refine wpAnyH_done (by kernel_rfl) ?_ _
                            go_wp2_with fail
                            go_meet
                            exact ⟨rfl, hHeld⟩
--RB>
                          | true =>
--<RC
                            refine wp_region_held_drew (S := fun w' => Gr wr w' none) (by kernel_rfl) ((Gr.refl _ _).drew) (fun hHeld => ?_)
                            refine wpAnyH_take (i := 0) (v := ?_) rfl (by kernel_rfl) (by kernel_rfl) (by kernel_rfl) (fun _ _ _ h => h) (Or.inl ⟨by rfl, ?_⟩) hHeld ?_
                            rotate_left
                            focus (intro wq hq; clear hq; go_simp; try with_reducible rfl)
                            simp only [Act.put, List.getElem_toArray, List.getElem_cons_zero, List.setIfInBounds_toArray, List.set_cons_zero, List.set_cons_succ]
                            refine wpAnyH_take (i := 1) (v := ?_) rfl (by kernel_rfl) (by kernel_rfl) (by kernel_rfl) (fun _ _ _ h => h) (Or.inl ⟨by rfl, ?_⟩) hHeld ?_
                            rotate_left
                            focus (intro wq hq; have k0 := hq.cell q0 (by simp); go_simp; try with_reducible rfl)
                            simp only [Act.put, List.getElem_toArray, List.getElem_cons_succ, List.getElem_cons_zero, List.setIfInBounds_toArray, List.set_cons_zero, List.set_cons_succ]
                            refine wpAnyH_take (i := 2) (v := ?_) rfl (by kernel_rfl) (by kernel_rfl) (by kernel_rfl) (fun _ _ _ h => h) (Or.inl ⟨by rfl, ?_⟩) hHeld ?_
                            rotate_left
                            focus (intro wq hq; clear hq; go_simp; try with_reducible rfl)
                            simp only [Act.put, List.getElem_toArray, List.getElem_cons_succ, List.getElem_cons_zero, List.setIfInBounds_toArray, List.set_cons_zero, List.set_cons_succ]
                            refine wpAnyH_take (i := 3) (v := ?_) rfl (by kernel_rfl) (by kernel_rfl) (by kernel_rfl) (fun _ _ _ h => h) (Or.inl ⟨by rfl, ?_⟩) hHeld ?_
                            rotate_left
                            focus (intro wq hq; clear hq; go_simp; try with_reducible rfl)
                            simp only [Act.put, List.getElem_toArray, List.getElem_cons_succ, List.getElem_cons_zero, List.setIfInBounds_toArray, List.set_cons_zero, List.set_cons_succ]
                            refine wpAnyH_take (i := 4) (v := ?_) rfl (by kernel_rfl) (by kernel_rfl) (by kernel_rfl) (fun _ _ _ h => h) (Or.inl ⟨by rfl, ?_⟩) hHeld ?_
                            rotate_left
                            focus (intro wq hq; clear hq; go_simp; try with_reducible rfl)
                            simp only [Act.put, List.getElem_toArray, List.getElem_cons_succ, List.getElem_cons_zero, List.setIfInBounds_toArray, List.set_cons_zero, List.set_cons_succ]
                            refine wpAnyH_take (i := 5) (v := ?_) rfl (by kernel_rfl) (by kernel_rfl) (by kernel_rfl) (fun _ _ _ h => h) (Or.inl ⟨by rfl, ?_⟩) hHeld ?_
                            rotate_left
                            focus (intro wq hq; have k0 := hq.cell d0 (by simp); have k1 := hq.cell d1 (by simp); have k2 := hq.cell d2 (by simp); have k3 := hq.cell d3 (by simp); have k4 := hq.cell d4 (by simp); go_simp; try with_reducible rfl)
                            simp only [Act.put, List.getElem_toArray, List.getElem_cons_succ, List.getElem_cons_zero, List.setIfInBounds_toArray, List.set_cons_zero, List.set_cons_succ]
                            refine wpAnyH_take (i := 6) (v := ?_) rfl (by kernel_rfl) (by kernel_rfl) (by kernel_rfl) (fun _ _ _ h => h) (Or.inl ⟨by rfl, ?_⟩) hHeld ?_
                            rotate_left
                            focus (intro wq hq; clear hq; go_simp; try with_reducible rfl)
                            simp only [Act.put, List.getElem_toArray, List.getElem_cons_succ, List.getElem_cons_zero, List.setIfInBounds_toArray, List.set_cons_zero, List.set_cons_succ]
                            refine wpAnyH_ready (rs := [7]) (by kernel_rfl) (by simp) ?_
                            refine AllReadyH.cons rfl (fun K hK => ?_) AllReadyH.nil
                            go_simp
                            refine (l3Use_any p.types at' ct q.op q.x q.y q.n (.slice an2 nq cn2) u hlt3 _ (HTB'.out.gr0 (HGU.out.trans0 hHeld)) (by omega)).mono ?_
                            rw [HU.out]
                            rintro e w3 ⟨rfl, hg3⟩
                            try dsimp only
                            refine hK.out _ _ (hHeld.trans0 hg3) (fun hHeld => ?_)
                            clear hK K
                            try simp only [Act.put, List.getElem_toArray, List.getElem_cons_succ, List.getElem_cons_zero, List.setIfInBounds_toArray, List.set_cons_zero, List.set_cons_succ]
                            refine wpAnyH_take (i := 8) (v := ?_) rfl (by kernel_rfl) (by kernel_rfl) (by kernel_rfl) (fun _ _ _ h => h) (Or.inl ⟨by rfl, ?_⟩) hHeld ?_
                            rotate_left
                            focus (intro wq hq; clear hq; go_simp; try with_reducible rfl)
                            simp only [Act.put, List.getElem_toArray, List.getElem_cons_succ, List.getElem_cons_zero, List.setIfInBounds_toArray, List.set_cons_zero, List.set_cons_succ]
                            refine wpAnyH_take (i := 9) (v := ?_) rfl (by kernel_rfl) (by kernel_rfl) (by kernel_rfl) (fun _ _ _ h => h) (Or.inl ⟨by rfl, ?_⟩) hHeld ?_
                            rotate_left
                            focus (intro wq hq; clear hq; go_simp; try with_reducible rfl)
                            simp only [Act.put, List.getElem_toArray, List.getElem_cons_succ, List.getElem_cons_zero, List.setIfInBounds_toArray, List.set_cons_zero, List.set_cons_succ]
                            refine wpAnyH_take (i := 10) (v := ?_) rfl (by kernel_rfl) (by kernel_rfl) (by kernel_rfl) (fun _ _ _ h => h) (Or.inl ⟨by rfl, ?_⟩) hHeld ?_
                            rotate_left
                            focus (intro wq hq; clear hq; go_simp; try with_reducible rfl)
                            simp only [Act.put, List.getElem_toArray, List.getElem_cons_succ, List.getElem_cons_zero, List.setIfInBounds_toArray, List.set_cons_zero, List.set_cons_succ]
                            refine wpAnyH_take (i := 11) (v := ?_) rfl (by kernel_rfl) (by kernel_rfl) (by kernel_rfl) (fun _ _ _ h => h) (Or.inl ⟨by rfl, ?_⟩) hHeld ?_
                            rotate_left
                            focus (intro wq hq; clear hq; go_simp; try with_reducible rfl)
                            simp only [Act.put, List.getElem_toArray, List.getElem_cons_succ, List.getElem_cons_zero, List.setIfInBounds_toArray, List.set_cons_zero, List.set_cons_succ]
                            refine wpAnyH_take (i := 12) (v := ?_) rfl (by kernel_rfl) (by kernel_rfl) (by kernel_rfl) (fun _ _ _ h => h) (Or.inl ⟨by rfl, ?_⟩) hHeld ?_
                            rotate_left
                            focus (intro wq hq; clear hq; go_simp; try with_reducible rfl)
                            simp only [Act.put, List.getElem_toArray, List.getElem_cons_succ, List.getElem_cons_zero, List.setIfInBounds_toArray, List.set_cons_zero, List.set_cons_succ]
                            refine wpAnyH_take (i := 13) (v := ?_) rfl (by kernel_rfl) (by kernel_rfl) (by kernel_rfl) (fun _ _ _ h => h) (Or.inl ⟨by rfl, ?_⟩) hHeld ?_
                            rotate_left
                            focus (intro wq hq; have k0 := hq.cell t0 (by simp); go_simp; try with_reducible rfl)
                            simp only [Act.put, List.getElem_toArray, List.getElem_cons_succ, List.getElem_cons_zero, List.setIfInBounds_toArray, List.set_cons_zero, List.set_cons_succ]
                            refine wpAnyH_take (i := 14) (v := ?_) rfl (by kernel_rfl) (by kernel_rfl) (by kernel_rfl) (fun _ _ _ h => h) (Or.inl ⟨by rfl, ?_⟩) hHeld ?_
                            rotate_left
                            focus (intro wq hq; clear hq; go_simp; try with_reducible rfl)
                            simp only [Act.put, List.getElem_toArray, List.getElem_cons_succ, List.getElem_cons_zero, List.setIfInBounds_toArray, List.set_cons_zero, List.set_cons_succ]
                            refine wpAnyH_take (i := 15) (v := ?_) rfl (by kernel_rfl) (by kernel_rfl) (by kernel_rfl) (fun _ _ _ h => h) (Or.inl ⟨by rfl, ?_⟩) hHeld ?_
                            rotate_left
                            focus (intro wq hq; clear hq; go_simp; try with_reducible rfl)
                            simp only [Act.put, List.getElem_toArray, List.getElem_cons_succ, List.getElem_cons_zero, List.setIfInBounds_toArray, List.set_cons_zero, List.set_cons_succ]
                            refine wpAnyH_take (i := 16) (v := ?_) rfl (by kernel_rfl) (by kernel_rfl) (by kernel_rfl) (fun _ _ _ h => h) (Or.inl ⟨by rfl, ?_⟩) hHeld ?_
                            rotate_left
                            focus (intro wq hq; have k0 := hq.cell f0 (by simp); go_simp; try with_reducible rfl)
                            simp only [Act.put, List.getElem_toArray, List.getElem_cons_succ, List.getElem_cons_zero, List.setIfInBounds_toArray, List.set_cons_zero, List.set_cons_succ]
                            refine wpAnyH_take (i := 17) (v := ?_) rfl (by kernel_rfl) (by kernel_rfl) (by kernel_rfl) (fun _ _ _ h => h) (Or.inl ⟨by rfl, ?_⟩) hHeld ?_
                            rotate_left
                            focus (intro wq hq; clear hq; go_simp; try with_reducible rfl)
                            simp only [Act.put, List.getElem_toArray, List.getElem_cons_succ, List.getElem_cons_zero, List.setIfInBounds_toArray, List.set_cons_zero, List.set_cons_succ]
                            refine wpAnyH_take (i := 18) (v := ?_) rfl (by kernel_rfl) (by kernel_rfl) (by kernel_rfl) (fun _ _ _ h => h) (Or.inl ⟨by rfl, ?_⟩) hHeld ?_
                            rotate_left
                            focus (intro wq hq; clear hq; go_simp; try with_reducible rfl)
                            simp only [Act.put, List.getElem_toArray, List.getElem_cons_succ, List.getElem_cons_zero, List.setIfInBounds_toArray, List.set_cons_zero, List.set_cons_succ]
                            refine wpAnyH_take (i := 19) (v := ?_) rfl (by kernel_rfl) (by kernel_rfl) (by kernel_rfl) (fun _ _ _ h => h) (Or.inl ⟨by rfl, ?_⟩) hHeld ?_
                            rotate_left
                            focus (intro wq hq; clear hq; go_simp; try with_reducible rfl)
                            simp only [Act.put, List.getElem_toArray, List.getElem_cons_succ, List.getElem_cons_zero, List.setIfInBounds_toArray, List.set_cons_zero, List.set_cons_succ]
                            refine wpAnyH_take (i := 20) (v := ?_) rfl (by kernel_rfl) (by kernel_rfl) (by kernel_rfl) (fun _ _ _ h => h) (Or.inl ⟨by rfl, ?_⟩) hHeld ?_
                            rotate_left
                            focus (intro wq hq; clear hq; go_simp; try with_reducible rfl)
                            simp only [Act.put, List.getElem_toArray, List.getElem_cons_succ, List.getElem_cons_zero, List.setIfInBounds_toArray, List.set_cons_zero, List.set_cons_succ]
                            refine wpAnyH_take (i := 21) (v := ?_) rfl (by kernel_rfl) (by kernel_rfl) (by kernel_rfl) (fun _ _ _ h => h) (Or.inl ⟨by rfl, ?_⟩) hHeld ?_
                            rotate_left
                            focus (intro wq hq; have k0 := hq.cell d0 (by simp); have k1 := hq.cell d1 (by simp); have k2 := hq.cell d2 (by simp); have k3 := hq.cell d3 (by simp); have k4 := hq.cell d4 (by simp); go_simp; try with_reducible rfl)
                            simp only [Act.put, List.getElem_toArray, List.getElem_cons_succ, List.getElem_cons_zero, List.setIfInBounds_toArray, List.set_cons_zero, List.set_cons_succ]
                            refine wpAnyH_take (i := 23) (v := ?_) rfl (by kernel_rfl) (by kernel_rfl) (by kernel_rfl) (fun _ _ _ h => h) (Or.inl ⟨by rfl, ?_⟩) hHeld ?_
                            rotate_left
                            focus (intro wq hq; clear hq; go_simp; try with_reducible rfl)
                            simp only [Act.put, List.getElem_toArray, List.getElem_cons_succ, List.getElem_cons_zero, List.setIfInBounds_toArray, List.set_cons_zero, List.set_cons_succ]
                            refine wpAnyH_ready (rs := [22]) (by kernel_rfl) (by simp) ?_
                            refine AllReadyH.cons rfl (fun K hK => ?_) AllReadyH.nil
                            go_simp
                            refine (l3Set_any q.op q.x q.y q.n _ _).mono ?_
                            rw [HSS.out]
                            rintro e w4 ⟨rfl, hg4⟩
                            try dsimp only
                            refine hK.out _ _ (hHeld.trans0 hg4) (fun hHeld => ?_)
                            clear hK K
                            try simp only [Act.put, List.getElem_toArray, List.getElem_cons_succ, List.getElem_cons_zero, List.setIfInBounds_toArray, List.set_cons_zero, List.set_cons_succ]
                            refine wpAnyH_take (i := 24) (v := ?_) rfl (by kernel_rfl) (by kernel_rfl) (by kernel_rfl) (fun _ _ _ h => h) (Or.inl ⟨by rfl, ?_⟩) hHeld ?_
                            rotate_left
                            focus (intro wq hq; clear hq; go_simp; try with_reducible rfl)
                            simp only [Act.put, List.getElem_toArray, List.getElem_cons_succ, List.getElem_cons_zero, List.setIfInBounds_toArray, List.set_cons_zero, List.set_cons_succ]
                            refine wpAnyH_take (i := 25) (v := ?_) rfl (by kernel_rfl) (by kernel_rfl) (by kernel_rfl) (fun _ _ _ h => h) (Or.inl ⟨by rfl, ?_⟩) hHeld ?_
                            rotate_left
                            focus (intro wq hq; clear hq; go_simp; try with_reducible rfl)
                            simp only [Act.put, List.getElem_toArray, List.getElem_cons_succ, List.getElem_cons_zero, List.setIfInBounds_toArray, List.set_cons_zero, List.set_cons_succ]
                            refine wpAnyH_take (i := 26) (v := ?_) rfl (by kernel_rfl) (by kernel_rfl) (by kernel_rfl) (fun _ _ _ h => h) (Or.inl ⟨by rfl, ?_⟩) hHeld ?_
                            rotate_left
                            focus (intro wq hq; clear hq; go_simp; try with_reducible rfl)
                            simp only [Act.put, List.getElem_toArray, List.getElem_cons_succ, List.getElem_cons_zero, List.setIfInBounds_toArray, List.set_cons_zero, List.set_cons_succ]
                            refine wpAnyH_take (i := 27) (v := ?_) rfl (by kernel_rfl) (by kernel_rfl) (by kernel_rfl) (fun _ _ _ h => h) (Or.inl ⟨by rfl, ?_⟩) hHeld ?_
                            rotate_left
                            focus (intro wq hq; clear hq; go_simp; try with_reducible rfl)
                            simp only [Act.put, List.getElem_toArray, List.getElem_cons_succ, List.getElem_cons_zero, List.setIfInBounds_toArray, List.set_cons_zero, List.set_cons_succ]
                            refine wpAnyH_done (by kernel_rfl) ?_ _
                            go_wp2_with fail
                            go_meet
                            exact ⟨rfl, hHeld⟩
--RC>
                      case rest =>
                        rename World => wx
                        obtain ⟨rfl, hgx⟩ := hcut
                        obtain ⟨bt', ot', e3, t1⟩ := tab_cell HT2.out hag
                        cases e3
                        replace t1 := hgx.cell t1 (by simp)
                        have f1 := hgx.cell ((HF2.out a hag).cell hlt3) (by simp)
                        have fz := ((HF2.out a hag).gr0 hgx).free u
                        have HGX := Lib.hid hgx
                        have hN : (ub || (fb && (SS != (u : Int)))) = true ↔ (usL p.types L kk u = true ∨ (nsL L kk u = true ∧ F2 kk u = true)) := by
                          rw [HUL.out, HNS.out, HFB.out, Bool.or_eq_true, Bool.and_eq_true, and_comm]
                        obtain ⟨ga, hga⟩ : ∃ ga, gs[a] = ga := ⟨_, rfl⟩
                        rw [hga] at t1 f1 fz
                        obtain ⟨fa, hfa⟩ : ∃ fa, F2 a u = fa := ⟨_, rfl⟩
                        rw [hfa] at f1
                        obtain ⟨nd, hnd⟩ : ∃ nd, (ub || (fb && (SS != (u : Int)))) = nd := ⟨_, rfl⟩
                        rw [hnd] at hN ⊢
                        have HN := Lib.hid hN
                        have HGA := Lib.hid hga
                        have HFA := Lib.hid hfa
                        clear hN hga hfa hnd hgx q0 d0 d1 d2 d3 d4 t0 f0
                        cases nd with
                        | false =>
                          have HB := Lib.hid (HR.out.same (Q' := QQ L p.types.length a j (u + 1)) (i := a) (k := kk) (v := u) (fun h => by have := HN.out.2 h; simp at this) (QQ.step HX.out))
                          go_wp2_with fail
                          go_roundw
                          case rel => exact ⟨c, F2, u + 1, by omega, rfl, by go_num, HB.out, HF2.out.gr0 HGX.out, HT2.out.gr0 HGX.out, HG2.out.trans0 HGX.out⟩
                          case measure => simp [intOf]; omega
                        | true =>
                          cases fa with
                          | true =>
                            have HB := Lib.hid (HR.out.same (Q' := QQ L p.types.length a j (u + 1)) (i := a) (k := kk) (v := u) (fun _ => HFA.out) (QQ.step HX.out))
                            go_wp2_with fail
                            go_roundw
                            case rel => exact ⟨c, F2, u + 1, by omega, rfl, by go_num, HB.out, HF2.out.gr0 HGX.out, HT2.out.gr0 HGX.out, HG2.out.trans0 HGX.out⟩
                            case measure => simp [intOf]; omega
                          | false =>
                            have HB := Lib.hid (HR.out.change (Q' := QQ L p.types.length a j (u + 1)) haL HKM.out (HN.out.1 rfl) (boxL_mem haL hlt3) HFA.out)
                            have HTS := Lib.hid (show RowsF (wx.setCell ⟨ga, u, none⟩ (.bool true)) gs p.types.length (setT F2 a u) ∧ RowsAt 1 (wx.setCell ⟨ga, u, none⟩ (.bool true)) Any (gs.map (gRow p.types.length)) (some ⟨bt, ot, none⟩) ∧ Gr wB (wx.setCell ⟨ga, u, none⟩ (.bool true)) none from by
                              obtain rfl := HGA.out
                              exact tab_set HF2.out HGX.out HND.out hag (own_set _ _ _ _) (((HF2.out a hag).gr0 HGX.out).set u true) HT2.out HOFF.out HGS.out HG2.out)
                            go_wp2_with fail
                            go_roundw
                            case rel => exact ⟨true, setT F2 a u, u + 1, by omega, rfl, by go_num, HB.out, HTS.out.1, HTS.out.2.1, HTS.out.2.2⟩
                            case measure => simp [intOf]; omega
                    · obtain rfl : u = p.types.length := by omega
                      go_wp2_with fail
                      go_roundw
                      case rel => exact ⟨c, F2, j + 1, by rw [HNL.out]; omega, rfl, by go_num, HR.out.mono QQ.next, HF2.out, HT2.out, HG2.out⟩
                      case measure => rw [HNL.out]; simp [intOf]; omega
                · obtain rfl : j = nn := by omega
                  go_wp2_with fail
                  go_roundw
                  case rel => exact ⟨c, F2, a, (a : Int) - 1, by omega, rfl, by go_num, rfl, HR.out.mono (QQ.exit (by rw [HNL.out]; exact Nat.le_refl _)), HF2.out, HT2.out, HG2.out⟩
                  case measure => first | (simp [intOf]; done) | (simp [intOf]; omega)
end Go.Proofs.Ytdnhinkjmjpnnaa
