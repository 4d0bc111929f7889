/- What an argument of bytes reads as. -/
import Derived.Test.YtadidppbhpdnkaaB2

import Derived.Test.YtadidppbhpdnkaaA

namespace Go.Proofs.Ytadidppbhpdnkaa

open Go.RowKit

/-- Bytes out of the cells of a row of numbers that fit. -/
theorem bytesIn_of {W : World} {x : Addr} {l c : Nat} {zs : List Int} (hl : l ≤ c) (hz : zs.length = c) (hcell : ∀ i, i < zs.length → W.cell? (x.add i) = some (.int .u8 (zs.getD i 0))) (hwz : ∀ n ∈ zs, (Lit.int .u8 n).wf = true) : BytesIn W (some x) l := by
  intro i hi
  obtain ⟨b, off, sp⟩ := x
  have hsp : sp = none := by have := World.cell?_spot (hcell 0 (by omega)); simpa [Addr.add] using this
  subst hsp
  have h : W.cell? ⟨b, off + i, none⟩ = some (.int .u8 (zs.getD i 0)) := by
    have h := hcell i (by omega)
    by_cases e : i = 0
    · subst e; simpa [Addr.add] using h
    · simpa [Addr.add, e] using h
  have hm : zs.getD i 0 ∈ zs := by rw [List.getD_eq_getElem?_getD, List.getElem?_eq_getElem (by omega)]; exact List.getElem_mem _
  have hw := hwz _ hm
  generalize zs.getD i 0 = z at *
  simp [Lit.wf] at hw
  have e1 : IntKind.u8.min = 0 := rfl
  have e2 : IntKind.u8.max = 255 := rfl
  rw [e1, e2] at hw
  have h0 : 0 ≤ z ∧ z ≤ 255 := by
    omega
  obtain ⟨k, rfl⟩ : ∃ k : Nat, z = k := ⟨z.toNat, by omega⟩
  exact ⟨b, off, k, rfl, h, by omega⟩
end Go.Proofs.Ytadidppbhpdnkaa
