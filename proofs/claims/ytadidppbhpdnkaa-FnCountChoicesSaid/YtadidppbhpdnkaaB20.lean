/- Walks of drawn arguments, weakly: a program that often has choices. -/
import Derived.Test.YtadidppbhpdnkaaB16

namespace Go.Proofs.Ytadidppbhpdnkaa

open Go.RowKit

theorem cntD_ret {R : Ending → World → Prop} {tmps : Array Value} {u : World} {b : Nat} {x0 x1 : Value} (hz : Zp u b x0 x1) {v0 v1 : Value} (ht : tmps.getD 2 undef = .pointer (some ⟨b, 0, none⟩)) (h : R (.returned (.agg #[v0, v1])) (put2 u b v0 v1)) :
    bodyPost Try.prog Try.f41 R .ret { tmps := tmps, defers := [] } (put2 u b v0 v1) := by
  obtain ⟨c0, c1⟩ := hz.put2 v0 v1
  generalize put2 u b v0 v1 = W at *
  have ht' : tmps[2]?.getD undef = .pointer (some ⟨b, 0, none⟩) := by simpa using ht
  refine bodyPost_ret (v := .agg #[v0, v1]) ?_ rfl h
  simp [results, Try.results41, go_sem, ht', c0, c1]
set_option maxRecDepth 100000 in
set_option maxHeartbeats 4000000 in
theorem cntD_any (a : Option Addr) (n c : Nat) (w : World) (h : BytesIn w a n) (hc : n ≤ c) (hn : n ≤ 100000000) : Calls Try.prog 41 #[.slice a n c] w (Drawn0 w) := by
  have hZ := Zp.new w (.slice none 0 0) (.slice none 0 0) 26
  have hA : Gr w (w.alloc (.cells #[.slice none 0 0, .slice none 0 0] 26)) none := (Gr.refl _ _).alloc _
  have hBy := h.gr0 hA
  go_enter Try.func41, Try.ntmps41
  go_wp2_with fail
  refine (open_any a n c _ hBy hc hn).mono ?_
  rintro e w1 ⟨rb, rfl, hR1, hrb, hg1⟩
  have hwr : w.heap.size < rb := by simp at hrb; omega
  have hZ1 := hZ.gr hg1 (by simp)
  have hG1 := hA.trans0 hg1
  have hlt1 := hR1.lt
  clear hZ hA hBy h hg1 hrb
  go_wp2_with fail
  refine (l2Branch_any rb 0 w1 hR1 (by omega)).mono ?_
  rintro e w2 ⟨p, at', ab, ct, cb, rfl, hT2, hB2, ht2, hc2, hg2, hr2⟩
  have HZ := Lib.hid (hZ1.gr hg2 (by simp; omega))
  have HG := Lib.hid (hG1.trans hg2 (fun r e => .inr (by cases e; omega)))
  have HT := Lib.hid hT2
  have HB := Lib.hid hB2
  clear hZ1 hG1 hg2 hR1 hT2 hB2 hr2
  obtain ⟨z0, z1, zf⟩ := HZ.out
  go_wp2_with fail
  (try simp only [Exit.inBlock, Exit.then])
  refine cntD_ret (b := w.heap.size) HZ.out rfl ?_
  exact ⟨p, _, _, rfl, PrAt.put (Nat.le_refl _) (by omega) HT.out HB.out ht2 hc2 rfl rfl, put2_gr HG.out (Nat.le_refl _)⟩
end Go.Proofs.Ytadidppbhpdnkaa
