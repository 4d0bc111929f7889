/- Walks of drawn arguments, weakly: a place. -/
import Derived.Test.YtadidppbhpdnkaaB16

namespace Go.Proofs.Ytadidppbhpdnkaa

open Go.RowKit

theorem lastD_ret {R : Ending → World → Prop} {tmps : Array Value} {u : World} {b : Nat} {x0 x1 : Value} (hz : Zp u b x0 x1) {v0 v1 v3 : Value} (ht : tmps.getD 2 undef = .pointer (some ⟨b, 0, none⟩)) (h3 : tmps.getD 3 undef = v3) (h : R (.returned (.tuple #[.agg #[v0, v1], v3])) (put2 u b v0 v1)) :
    bodyPost Try.prog Try.f31 R .ret { tmps := tmps, defers := [] } (put2 u b v0 v1) := by
  obtain ⟨c0, c1⟩ := hz.put2 v0 v1
  generalize put2 u b v0 v1 = W at *
  have ht' : tmps[2]?.getD undef = .pointer (some ⟨b, 0, none⟩) := by simpa using ht
  have h3' : tmps[3]?.getD undef = v3 := by simpa using h3
  refine bodyPost_ret (v := .tuple #[.agg #[v0, v1], v3]) ?_ rfl h
  simp [results, Try.results31, go_sem, ht', h3', c0, c1]
theorem lastD_any (a : Option Addr) (n c : Nat) (w : World) (h : BytesIn w a n) (hc : n ≤ c) (hn : n ≤ 100000000) : Calls Try.prog 31 #[.slice a n c] w (Drawn1 w) := by
  have hZ := Zp.new w (.slice none 0 0) (.slice none 0 0) 26
  have hA : Gr w (w.alloc (.cells #[.slice none 0 0, .slice none 0 0] 26)) none := (Gr.refl _ _).alloc _
  have hBy := h.gr0 hA
  go_enter Try.func31, Try.ntmps31
  go_wp2_with fail
  refine (l3Place_any a n c _ hBy hc hn).mono ?_
  rintro e w1 ⟨p, v0, v1, k, rfl, ⟨at', ab, ct, cb, rfl, rfl, hT, hB, ht, hc2⟩, hk1, hk2, hg1⟩
  have HZ := Lib.hid (hZ.gr hg1 (by simp))
  have HG := Lib.hid (hA.trans0 hg1)
  clear hA hZ hg1
  obtain ⟨z0, z1, zf⟩ := HZ.out
  have hT' := Lib.hid hT
  have hB' := Lib.hid hB
  clear hT hB
  go_wp2_with fail
  (try simp only [Exit.inBlock, Exit.then])
  refine lastD_ret (b := w.heap.size) HZ.out rfl rfl ?_
  exact ⟨p, _, _, k, rfl, PrAt.put (Nat.le_refl _) (by simp) hT'.out hB'.out ht hc2 rfl rfl, hk1, hk2, put2_gr HG.out (Nat.le_refl _)⟩
end Go.Proofs.Ytadidppbhpdnkaa
