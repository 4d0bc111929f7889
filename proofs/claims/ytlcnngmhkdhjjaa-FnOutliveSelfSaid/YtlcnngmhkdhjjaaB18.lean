/- Walks of drawn arguments, weakly: uses; mutated programs alone. -/
import Derived.Test.YtlcnngmhkdhjjaaB16

namespace Go.Proofs.Ytlcnngmhkdhjjaa

open Go.RowKit

theorem validD_ret {R : Ending → World → Prop} {tmps : Array Value} {u : World} {b : Nat} {x0 x1 : Value} (hz : Zp u b x0 x1) {v0 v1 : Value} (ht : tmps.getD 2 undef = .pointer (some ⟨b, 0, none⟩)) (h : R (.returned (.agg #[v0, v1])) (put2 u b v0 v1)) :
    bodyPost Try.prog Try.f66 R .ret { tmps := tmps, defers := [] } (put2 u b v0 v1) := by
  obtain ⟨c0, c1⟩ := hz.put2 v0 v1
  generalize put2 u b v0 v1 = W at *
  have ht' : tmps[2]?.getD undef = .pointer (some ⟨b, 0, none⟩) := by simpa using ht
  refine bodyPost_ret (v := .agg #[v0, v1]) ?_ rfl h
  simp [results, Try.results66, go_sem, ht', c0, c1]
set_option maxRecDepth 100000 in
set_option maxHeartbeats 8000000 in
theorem validD_any (a : Option Addr) (n c : Nat) (w : World) (h : BytesIn w a n) (hc : n ≤ c) (hn : n ≤ 100000000) : Calls Try.prog 66 #[.slice a n c] w (Drawn0 w) := by
  have hZ := Zp.new w (.slice none 0 0) (.slice none 0 0) 26
  have hA : Gr w (w.alloc (.cells #[.slice none 0 0, .slice none 0 0] 26)) none := (Gr.refl _ _).alloc _
  have hBy := h.gr0 hA
  go_enter Try.func66, Try.ntmps66
  go_wp2_with fail
  refine (open_any a n c _ hBy hc hn).mono ?_
  rintro e w1 ⟨rb, rfl, hR1, hrb, hg1⟩
  have hwr : w.heap.size < rb := by simp at hrb; omega
  have hZ1 := hZ.gr hg1 (by simp)
  have hG1 := hA.trans0 hg1
  have hlt1 := hR1.lt
  clear hZ hA hBy h hg1 hrb
  go_wp2_with fail
  refine (l1Draw_any rb 0 w1 hR1 (by omega)).mono ?_
  rintro e w2 ⟨p1, a1, b1, c1, d1, rfl, hT1, hB1, ht1, hc1, hg2, hr2⟩
  have hs2 : w1.heap.size ≤ w2.heap.size := hg2.size
  have hZ2 := hZ1.gr hg2 (by simp; omega)
  have hG2 := hG1.trans hg2 (fun r e => .inr (by cases e; omega))
  clear hZ1 hG1 hg2 hR1
  go_wp2_with fail
  refine (l1Mutate_any rb (0 + 400) p1 a1 b1 c1 d1 w2 hr2 (by omega) (hT1.mono (fun _ _ _ => trivial) (fun _ _ _ _ h => h)) (hB1.sub fun _ _ _ => trivial) ht1 hc1).mono ?_
  rintro e w3 ⟨p, at', ab, ct, cb, rfl, hT2, hB2, ht2, hc2, hg3, hr3⟩
  have hlb := count_length p.body
  have hs3 : w2.heap.size ≤ w3.heap.size := hg3.size
  have hlt3 := hr3.lt
  have hZ3 := hZ2.gr hg3 (by simp; omega)
  have hG3 := hG2.trans hg3 (fun r e => .inr (by cases e; omega))
  clear hZ2 hG2 hg3 hr2 hT1 hB1
  have HZ := Lib.hid hZ3
  have HG := Lib.hid hG3
  have HT := Lib.hid hT2
  have HB := Lib.hid hB2
  clear hZ3 hG3 hT2 hB2 hr3
  obtain ⟨z0, z1, zf⟩ := HZ.out
  go_wp2_with fail
  (try simp only [Exit.inBlock, Exit.then])
  refine validD_ret (b := w.heap.size) HZ.out rfl ?_
  exact ⟨p, _, _, rfl, PrAt.put (Nat.le_refl _) (by omega) HT.out HB.out ht2 hc2 rfl rfl, put2_gr HG.out (Nat.le_refl _)⟩
theorem checkD_ret {R : Ending → World → Prop} {tmps : Array Value} {u : World} {b : Nat} {x0 x1 : Value} (hz : Zp u b x0 x1) {v0 v1 : Value} (ht : tmps.getD 2 undef = .pointer (some ⟨b, 0, none⟩)) (h : R (.returned (.agg #[v0, v1])) (put2 u b v0 v1)) :
    bodyPost Try.prog Try.f74 R .ret { tmps := tmps, defers := [] } (put2 u b v0 v1) := by
  obtain ⟨c0, c1⟩ := hz.put2 v0 v1
  generalize put2 u b v0 v1 = W at *
  have ht' : tmps[2]?.getD undef = .pointer (some ⟨b, 0, none⟩) := by simpa using ht
  refine bodyPost_ret (v := .agg #[v0, v1]) ?_ rfl h
  simp [results, Try.results74, go_sem, ht', c0, c1]
set_option maxRecDepth 100000 in
set_option maxHeartbeats 8000000 in
theorem checkD_any (a : Option Addr) (n c : Nat) (w : World) (h : BytesIn w a n) (hc : n ≤ c) (hn : n ≤ 100000000) : Calls Try.prog 74 #[.slice a n c] w (Drawn0 w) := by
  have hZ := Zp.new w (.slice none 0 0) (.slice none 0 0) 26
  have hA : Gr w (w.alloc (.cells #[.slice none 0 0, .slice none 0 0] 26)) none := (Gr.refl _ _).alloc _
  have hBy := h.gr0 hA
  go_enter Try.func74, Try.ntmps74
  go_wp2_with fail
  refine (open_any a n c _ hBy hc hn).mono ?_
  rintro e w1 ⟨rb, rfl, hR1, hrb, hg1⟩
  have hwr : w.heap.size < rb := by simp at hrb; omega
  have hZ1 := hZ.gr hg1 (by simp)
  have hG1 := hA.trans0 hg1
  have hlt1 := hR1.lt
  clear hZ hA hBy h hg1 hrb
  go_wp2_with fail
  refine (l1Draw_any rb 0 w1 hR1 (by omega)).mono ?_
  rintro e w2 ⟨p1, a1, b1, c1, d1, rfl, hT1, hB1, ht1, hc1, hg2, hr2⟩
  have hs2 : w1.heap.size ≤ w2.heap.size := hg2.size
  have hZ2 := hZ1.gr hg2 (by simp; omega)
  have hG2 := hG1.trans hg2 (fun r e => .inr (by cases e; omega))
  clear hZ1 hG1 hg2 hR1
  go_wp2_with fail
  refine (l1Mutate_any rb (0 + 400) p1 a1 b1 c1 d1 w2 hr2 (by omega) (hT1.mono (fun _ _ _ => trivial) (fun _ _ _ _ h => h)) (hB1.sub fun _ _ _ => trivial) ht1 hc1).mono ?_
  rintro e w3 ⟨p, at', ab, ct, cb, rfl, hT2, hB2, ht2, hc2, hg3, hr3⟩
  have hlb := count_length p.body
  have hs3 : w2.heap.size ≤ w3.heap.size := hg3.size
  have hlt3 := hr3.lt
  have hZ3 := hZ2.gr hg3 (by simp; omega)
  have hG3 := hG2.trans hg3 (fun r e => .inr (by cases e; omega))
  clear hZ2 hG2 hg3 hr2 hT1 hB1
  have HZ := Lib.hid hZ3
  have HG := Lib.hid hG3
  have HT := Lib.hid hT2
  have HB := Lib.hid hB2
  clear hZ3 hG3 hT2 hB2 hr3
  obtain ⟨z0, z1, zf⟩ := HZ.out
  go_wp2_with fail
  (try simp only [Exit.inBlock, Exit.then])
  refine checkD_ret (b := w.heap.size) HZ.out rfl ?_
  exact ⟨p, _, _, rfl, PrAt.put (Nat.le_refl _) (by omega) HT.out HB.out ht2 hc2 rfl rfl, put2_gr HG.out (Nat.le_refl _)⟩
theorem loansD_ret {R : Ending → World → Prop} {tmps : Array Value} {u : World} {b : Nat} {x0 x1 : Value} (hz : Zp u b x0 x1) {v0 v1 : Value} (ht : tmps.getD 2 undef = .pointer (some ⟨b, 0, none⟩)) (h : R (.returned (.agg #[v0, v1])) (put2 u b v0 v1)) :
    bodyPost Try.prog Try.f19 R .ret { tmps := tmps, defers := [] } (put2 u b v0 v1) := by
  obtain ⟨c0, c1⟩ := hz.put2 v0 v1
  generalize put2 u b v0 v1 = W at *
  have ht' : tmps[2]?.getD undef = .pointer (some ⟨b, 0, none⟩) := by simpa using ht
  refine bodyPost_ret (v := .agg #[v0, v1]) ?_ rfl h
  simp [results, Try.results19, go_sem, ht', c0, c1]
set_option maxRecDepth 100000 in
set_option maxHeartbeats 8000000 in
theorem loansD_any (a : Option Addr) (n c : Nat) (w : World) (h : BytesIn w a n) (hc : n ≤ c) (hn : n ≤ 100000000) : Calls Try.prog 19 #[.slice a n c] w (Drawn0 w) := by
  have hZ := Zp.new w (.slice none 0 0) (.slice none 0 0) 26
  have hA : Gr w (w.alloc (.cells #[.slice none 0 0, .slice none 0 0] 26)) none := (Gr.refl _ _).alloc _
  have hBy := h.gr0 hA
  go_enter Try.func19, Try.ntmps19
  go_wp2_with fail
  refine (validD_any a n c _ hBy hc hn).mono ?_
  rintro e w1 ⟨p, v0, v1, rfl, ⟨at', ab, ct, cb, rfl, rfl, hT, hB, ht, hc2⟩, hg1⟩
  have HZ := Lib.hid (hZ.gr hg1 (by simp))
  have HG := Lib.hid (hA.trans0 hg1)
  have HT := Lib.hid hT
  have HB := Lib.hid hB
  clear hA hZ hg1 hT hB
  obtain ⟨z0, z1, zf⟩ := HZ.out
  go_wp2_with fail
  (try simp only [Exit.inBlock, Exit.then])
  refine loansD_ret (b := w.heap.size) HZ.out rfl ?_
  exact ⟨p, _, _, rfl, PrAt.put (Nat.le_refl _) (by simp) HT.out HB.out ht hc2 rfl rfl, put2_gr HG.out (Nat.le_refl _)⟩
theorem boundsD_ret {R : Ending → World → Prop} {tmps : Array Value} {u : World} {b : Nat} {x0 x1 : Value} (hz : Zp u b x0 x1) {v0 v1 : Value} (ht : tmps.getD 2 undef = .pointer (some ⟨b, 0, none⟩)) (h : R (.returned (.agg #[v0, v1])) (put2 u b v0 v1)) :
    bodyPost Try.prog Try.f25 R .ret { tmps := tmps, defers := [] } (put2 u b v0 v1) := by
  obtain ⟨c0, c1⟩ := hz.put2 v0 v1
  generalize put2 u b v0 v1 = W at *
  have ht' : tmps[2]?.getD undef = .pointer (some ⟨b, 0, none⟩) := by simpa using ht
  refine bodyPost_ret (v := .agg #[v0, v1]) ?_ rfl h
  simp [results, Try.results25, go_sem, ht', c0, c1]
set_option maxRecDepth 100000 in
set_option maxHeartbeats 8000000 in
theorem boundsD_any (a : Option Addr) (n c : Nat) (w : World) (h : BytesIn w a n) (hc : n ≤ c) (hn : n ≤ 100000000) : Calls Try.prog 25 #[.slice a n c] w (Drawn0 w) := by
  have hZ := Zp.new w (.slice none 0 0) (.slice none 0 0) 26
  have hA : Gr w (w.alloc (.cells #[.slice none 0 0, .slice none 0 0] 26)) none := (Gr.refl _ _).alloc _
  have hBy := h.gr0 hA
  go_enter Try.func25, Try.ntmps25
  go_wp2_with fail
  refine (checkD_any a n c _ hBy hc hn).mono ?_
  rintro e w1 ⟨p, v0, v1, rfl, ⟨at', ab, ct, cb, rfl, rfl, hT, hB, ht, hc2⟩, hg1⟩
  have HZ := Lib.hid (hZ.gr hg1 (by simp))
  have HG := Lib.hid (hA.trans0 hg1)
  have HT := Lib.hid hT
  have HB := Lib.hid hB
  clear hA hZ hg1 hT hB
  obtain ⟨z0, z1, zf⟩ := HZ.out
  go_wp2_with fail
  (try simp only [Exit.inBlock, Exit.then])
  refine boundsD_ret (b := w.heap.size) HZ.out rfl ?_
  exact ⟨p, _, _, rfl, PrAt.put (Nat.le_refl _) (by simp) HT.out HB.out ht hc2 rfl rfl, put2_gr HG.out (Nat.le_refl _)⟩
end Go.Proofs.Ytlcnngmhkdhjjaa
