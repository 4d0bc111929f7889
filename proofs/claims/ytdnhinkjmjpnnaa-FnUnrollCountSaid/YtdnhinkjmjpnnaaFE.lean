/- ProgramSame: of two programs that read the same it says yes. -/
import Derived.Test.YtdnhinkjmjpnnaaB20

import Derived.BigQuiet

namespace Go.Proofs.Ytdnhinkjmjpnnaa

open Go.RowKit

set_option maxRecDepth 100000 in
set_option maxHeartbeats 1000000 in
theorem equal_same (l : List Int) (a b : Option Addr) (c c' : Nat) (w : World) (ha : InAt w Any l a) (hb : InAt w Any l b) (hl : l.length ≤ 1048576) :
    Calls Try.prog 117 #[.slice a l.length c, .slice b l.length c'] w fun e w' => e = .returned (.bool true) ∧ Gr w w' none := by
  have HA := Lib.hid ha
  have HB := Lib.hid hb
  clear ha hb
  go_enter Try.func117, Try.ntmps117
  go_wp2_with fail
  go_loopw [13] (fun i wr => ∃ k : Nat, k ≤ l.length ∧ i = .int .i64 k ∧ Gr w wr none) (fun i _ => l.length - (intOf i).toNat)
  case atStart => exact ⟨0, Nat.zero_le _, rfl, Gr.refl _ _⟩
  case round =>
    obtain ⟨k, hk, rfl, hg⟩ := hrel
    by_cases hlt : k < l.length
    · obtain ⟨b1, o1, rfl, -, e1⟩ := (HA.out.gr0 hg).at hlt
      obtain ⟨b2, o2, rfl, -, e2⟩ := (HB.out.gr0 hg).at hlt
      obtain ⟨x, hx⟩ : ∃ x, l[k] = x := ⟨_, rfl⟩
      rw [hx] at e1 e2
      have HG := Lib.hid hg
      clear hx hg
      go_wp2_with fail
      go_region
      all_goals
        go_wp2_with fail
        go_roundw
        case rel => exact ⟨k + 1, by omega, by go_num, HG.out.drew⟩
        case measure => simp [intOf]; omega
    · obtain rfl : k = l.length := by omega
      go_wp2_with fail
      go_ret
      exact ⟨rfl, hg⟩
def SameC (n : Nat) : Prop := ∀ (l : List St) (a b : Option Addr) (c c' : Nat) (w : World), St.count l ≤ n → SlAt w Any l a → SlAt w Any l b → Calls Try.prog 118 #[.slice a l.length c, .slice b l.length c'] w (fun e w' => e = .returned (.bool true) ∧ Gr w w' none)
set_option maxRecDepth 100000 in
set_option maxHeartbeats 2000000 in
theorem same_close (n : Nat) (hA : ∀ m, m < n → SameC m) (op x y k : Int) (t e : List St) (hc : St.count t + St.count e + 1 ≤ n) (a1 a2 b1 b2 : Option Addr) (c1 c2 d1 d2 : Nat) (w : World)
    (h1 : SlAt w Any t a1) (h2 : SlAt w Any e a2) (h3 : SlAt w Any t b1) (h4 : SlAt w Any e b2) :
    Calls Try.prog 157 #[.agg #[.int .i64 op, .int .i64 x, .int .i64 y, .int .i64 k, .slice a1 t.length c1, .slice a2 e.length c2], .agg #[.int .i64 op, .int .i64 x, .int .i64 y, .int .i64 k, .slice b1 t.length d1, .slice b2 e.length d2]] w (fun e w' => e = .returned (.bool true) ∧ Gr w w' none) := by
  have H1 := Lib.hid h1
  have H2 := Lib.hid h2
  have H3 := Lib.hid h3
  have H4 := Lib.hid h4
  have HA := Lib.hid hA
  clear h1 h2 h3 h4 hA
  go_enter Try.func157, Try.ntmps157
  go_wp2_with fail
  obtain ⟨wA, hwA⟩ : ∃ wA : World, wA = (w.alloc (.cells #[.int .i64 op, .int .i64 x, .int .i64 y, .int .i64 k, .slice a1 t.length c1, .slice a2 e.length c2] 126)).alloc (.cells #[.int .i64 op, .int .i64 x, .int .i64 y, .int .i64 k, .slice b1 t.length d1, .slice b2 e.length d2] 126) := ⟨_, rfl⟩
  have hgA : Gr w wA none := by rw [hwA]; exact ((Gr.refl _ _).alloc _).alloc _
  have hza : Z6 wA w.heap.size (.int .i64 op) (.int .i64 x) (.int .i64 y) (.int .i64 k) (.slice a1 t.length c1) (.slice a2 e.length c2) := by rw [hwA]; exact (Z6.new w _ _ _ _ _ _ _).gr ((Gr.refl _ none).alloc _) (by simp)
  have hzb : Z6 wA (w.heap.size + 1) (.int .i64 op) (.int .i64 x) (.int .i64 y) (.int .i64 k) (.slice b1 t.length d1) (.slice b2 e.length d2) := by
    rw [hwA]
    have := Z6.new (w.alloc (.cells #[.int .i64 op, .int .i64 x, .int .i64 y, .int .i64 k, .slice a1 t.length c1, .slice a2 e.length c2] 126)) (.int .i64 op) (.int .i64 x) (.int .i64 y) (.int .i64 k) (.slice b1 t.length d1) (.slice b2 e.length d2) 126
    simpa using this
  rw [← hwA]
  clear hwA
  refine (HA.out (St.count t) (by omega) t a1 b1 c1 d1 _ (Nat.le_refl _) (H1.out.gr0 hgA) (H3.out.gr0 hgA)).mono ?_
  rintro e1 w1 ⟨rfl, hg1⟩
  obtain ⟨-, -, -, -, z4, z5, -⟩ := hza.gr hg1 (by simp)
  obtain ⟨-, -, -, -, y4, y5, -⟩ := hzb.gr hg1 (by simp)
  have HG := Lib.hid (hgA.trans0 hg1)
  clear hza hzb hgA hg1
  go_wp2_with fail
  refine (HA.out (St.count e) (by omega) e a2 b2 c2 d2 _ (Nat.le_refl _) (H2.out.gr0 HG.out) (H4.out.gr0 HG.out)).mono ?_
  rintro e2 w2 ⟨rfl, hg2⟩
  have HG2 := Lib.hid (HG.out.trans0 hg2)
  clear hg2
  go_wp2_with fail
  go_ret
  exact ⟨rfl, HG2.out⟩
set_option maxRecDepth 100000 in
set_option maxHeartbeats 2000000 in
theorem eqFunc_same (n : Nat) (hA : ∀ m, m < n → SameC m) (l : List St) (a b : Option Addr) (c c' : Nat) (w : World) (hc : St.count l ≤ n) (hn : n ≤ 1048576) (ha : SlAt w Any l a) (hb : SlAt w Any l b) :
    Calls Try.prog 156 #[.slice a l.length c, .slice b l.length c', .func (.func 157) #[] #[]] w (fun e w' => e = .returned (.bool true) ∧ Gr w w' none) := by
  have HA := Lib.hid hA
  have HSA := Lib.hid ha
  have HSB := Lib.hid hb
  have hl := count_length l
  clear hA ha hb
  go_enter Try.func156, Try.ntmps156
  go_wp2_with fail
  go_loopw [17] (fun i wr => ∃ k : Nat, k ≤ l.length ∧ i = .int .i64 k ∧ Gr w wr none) (fun i _ => l.length - (intOf i).toNat)
  case atStart => exact ⟨0, Nat.zero_le _, rfl, Gr.refl _ _⟩
  case round =>
    obtain ⟨k, hk, rfl, hg⟩ := hrel
    have HG := Lib.hid hg
    clear hg
    by_cases hlt : k < l.length
    · obtain ⟨ba, oa, rfl, hsa⟩ := (HSA.out.gr0 HG.out).at hlt
      obtain ⟨bb, ob', rfl, hsb⟩ := (HSB.out.gr0 HG.out).at hlt
      have hin := count_get hlt
      obtain ⟨q, hq⟩ : ∃ q, l[k] = q := ⟨_, rfl⟩
      rw [hq] at hsa hsb hin
      clear hq
      obtain ⟨op, x, y, kk, t, e⟩ := q
      obtain ⟨_, -, -, at', ct, ae, ce, c0, c1, c2, c3, c4, c5, r4, r5⟩ := hsa.out
      obtain ⟨_, -, -, bt', dt, be, de, d0, d1, d2, d3, d4, d5, s4, s5⟩ := hsb.out
      simp only [St.op, St.x, St.y, St.n, St.thn, St.els] at c0 c1 c2 c3 c4 c5 r4 r5 d0 d1 d2 d3 d4 d5 s4 s5
      have hin' : St.count t + St.count e + 1 ≤ St.count l := hin
      have HR4 := Lib.hid r4
      have HR5 := Lib.hid r5
      have HS4 := Lib.hid s4
      have HS5 := Lib.hid s5
      have hA0 : ∀ o, Gr wr (wr.alloc o) none := fun o => (Gr.refl _ _).alloc _
      replace d0 := fun o => (hA0 o).cell d0 (by simp)
      replace d1 := fun o => (hA0 o).cell d1 (by simp)
      replace d2 := fun o => (hA0 o).cell d2 (by simp)
      replace d3 := fun o => (hA0 o).cell d3 (by simp)
      replace d4 := fun o => (hA0 o).cell d4 (by simp)
      replace d5 := fun o => (hA0 o).cell d5 (by simp)
      clear hsa hsb r4 r5 s4 s5 hin hA0
      go_wp2_with fail
      obtain ⟨wB, hwB⟩ : ∃ wB : World, wB = (wr.alloc (.cells #[.int .i64 op, .int .i64 x, .int .i64 y, .int .i64 kk, .slice at' t.length ct, .slice ae e.length ce] 126)).alloc (.cells #[.int .i64 op, .int .i64 x, .int .i64 y, .int .i64 kk, .slice bt' t.length dt, .slice be e.length de] 126) := ⟨_, rfl⟩
      have hgB : Gr wr wB none := by rw [hwB]; exact ((Gr.refl _ _).alloc _).alloc _
      rw [← hwB]
      clear hwB d0 d1 d2 d3 d4 d5 c0 c1 c2 c3 c4 c5
      refine (same_close n HA.out op x y kk t e (by omega) at' ae bt' be ct ce dt de wB (HR4.out.gr0 hgB) (HR5.out.gr0 hgB) (HS4.out.gr0 hgB) (HS5.out.gr0 hgB)).mono ?_
      rintro e1 w1 ⟨rfl, hg1⟩
      have HG1 := Lib.hid ((HG.out.trans0 hgB).trans0 hg1)
      clear hgB hg1
      go_wp2_with fail
      go_roundw
      case rel => exact ⟨k + 1, by omega, by go_num, HG1.out⟩
      case measure => simp [intOf]; omega
    · obtain rfl : k = l.length := by omega
      go_wp2_with fail
      go_ret
      exact ⟨rfl, HG.out⟩
theorem same_step (n : Nat) (hn : n ≤ 1048576) (hA : ∀ m, m < n → SameC m) : SameC n := by
  intro l a b c c' w hc ha hb
  go_enter Try.func118, Try.ntmps118
  go_wp2_with fail
  refine (eqFunc_same n hA l a b c c' w hc hn ha hb).mono ?_
  rintro e w1 ⟨rfl, hg⟩
  go_wp2_with fail
  go_ret
  exact ⟨rfl, hg⟩
theorem same_all : ∀ n, n ≤ 1048576 → SameC n := fun n => Nat.strongRecOn n (fun n ih hn => same_step n hn (fun m hm => ih m hm (by omega)))
set_option maxHeartbeats 1000000 in
theorem programSame_any (p : Pr) (a1 a2 b1 b2 : Option Addr) (c1 c2 d1 d2 : Nat) (w : World) (h1 : InAt w Any p.types a1) (h2 : SlAt w Any p.body a2) (h3 : InAt w Any p.types b1) (h4 : SlAt w Any p.body b2) (hs : p.types.length ≤ 1048576) (hc : St.count p.body ≤ 1048576) :
    Calls Try.prog 58 #[.agg #[.slice a1 p.types.length c1, .slice a2 p.body.length c2], .agg #[.slice b1 p.types.length d1, .slice b2 p.body.length d2]] w (fun e w' => e = .returned (.bool true) ∧ Gr w w' none) := by
  have hg1 : ∀ o o', Gr w ((w.alloc o).alloc o') none := fun o o' => ((Gr.refl _ _).alloc _).alloc _
  go_enter Try.func58, Try.ntmps58
  go_wp2_with fail
  refine (equal_same p.types a1 b1 c1 d1 _ (h1.gr0 (hg1 _ _)) (h3.gr0 (hg1 _ _)) hs).mono ?_
  rintro e w1 ⟨rfl, hg⟩
  have x1 := hg.cell (p := ⟨w.heap.size, 1, none⟩) (v := .slice a2 p.body.length c2) ((Gr.alloc (Gr.refl _ none) _).cell (cell?_new2 _ _).2 (by simp)) (by simp)
  have y1 := hg.cell (p := ⟨w.heap.size + 1, 1, none⟩) (v := .slice b2 p.body.length d2) (by simp) (by simp)
  have HG := Lib.hid ((hg1 _ _).trans0 hg)
  clear hg
  go_wp2_with fail
  refine (same_all _ hc p.body a2 b2 c2 d2 _ (Nat.le_refl _) (h2.gr0 HG.out) (h4.gr0 HG.out)).mono ?_
  rintro e w2 ⟨rfl, hg2⟩
  go_wp2_with fail
  go_ret
  exact ⟨rfl, HG.out.trans0 hg2⟩
end Go.Proofs.Ytdnhinkjmjpnnaa
