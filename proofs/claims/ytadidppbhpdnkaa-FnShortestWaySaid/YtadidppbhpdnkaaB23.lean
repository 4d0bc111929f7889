/- Walks of drawn arguments, weakly: two points. -/
import Derived.Test.YtadidppbhpdnkaaB17

namespace Go.Proofs.Ytadidppbhpdnkaa

open Go.RowKit

theorem shortD_ret {R : Ending → World → Prop} {tmps : Array Value} {u : World} {b : Nat} {x0 x1 : Value} (hz : Zp u b x0 x1) {v0 v1 v3 v4 : Value} (ht : tmps.getD 2 undef = .pointer (some ⟨b, 0, none⟩)) (h3 : tmps.getD 3 undef = v3) (h4 : tmps.getD 4 undef = v4) (h : R (.returned (.tuple #[.agg #[v0, v1], v3, v4])) (put2 u b v0 v1)) :
    bodyPost Try.prog Try.f43 R .ret { tmps := tmps, defers := [] } (put2 u b v0 v1) := by
  obtain ⟨c0, c1⟩ := hz.put2 v0 v1
  generalize put2 u b v0 v1 = W at *
  have ht' : tmps[2]?.getD undef = .pointer (some ⟨b, 0, none⟩) := by simpa using ht
  have h3' : tmps[3]?.getD undef = v3 := by simpa using h3
  have h4' : tmps[4]?.getD undef = v4 := by simpa using h4
  refine bodyPost_ret (v := .tuple #[.agg #[v0, v1], v3, v4]) ?_ rfl h
  simp [results, Try.results43, go_sem, ht', h3', h4', c0, c1]
set_option maxRecDepth 100000 in
set_option maxHeartbeats 4000000 in
theorem shortD_any (a : Option Addr) (n c : Nat) (w : World) (h : BytesIn w a n) (hc : n ≤ c) (hn : n ≤ 100000000) : Calls Try.prog 43 #[.slice a n c] w (Drawn2 w) := by
  have hZ := Zp.new w (.slice none 0 0) (.slice none 0 0) 26
  have hA : Gr w (w.alloc (.cells #[.slice none 0 0, .slice none 0 0] 26)) none := (Gr.refl _ _).alloc _
  have hBy := h.gr0 hA
  go_enter Try.func43, Try.ntmps43
  go_wp2_with fail
  refine (l12Case_any a n c _ hBy hc hn).mono ?_
  rintro e w1 ⟨p, v0, v1, k, m, rfl, ⟨at', ab, ct, cb, rfl, rfl, hT, hB, ht, hc2⟩, hk1, hk2, hm1, hm2, hg1⟩
  have HZ := Lib.hid (hZ.gr hg1 (by simp))
  have HG := Lib.hid (hA.trans0 hg1)
  clear hA hZ hg1
  obtain ⟨z0, z1, zf⟩ := HZ.out
  have hT' := Lib.hid hT
  have hB' := Lib.hid hB
  clear hT hB
  go_wp2_with fail
  (try simp only [Exit.inBlock, Exit.then])
  refine shortD_ret (b := w.heap.size) HZ.out rfl rfl rfl ?_
  exact ⟨p, _, _, k, m, rfl, PrAt.put (Nat.le_refl _) (by simp) hT'.out hB'.out ht hc2 rfl rfl, hk1, hk2, hm1, hm2, put2_gr HG.out (Nat.le_refl _)⟩
end Go.Proofs.Ytadidppbhpdnkaa
