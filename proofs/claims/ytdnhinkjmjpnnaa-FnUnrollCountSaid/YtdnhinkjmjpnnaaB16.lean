/- Walks of drawn arguments, weakly: places, pairs of points, uses. -/
import Derived.Test.YtdnhinkjmjpnnaaB15

import Derived.Test.YtdnhinkjmjpnnaaS1

namespace Go.Proofs.Ytdnhinkjmjpnnaa

open Go.RowKit

def Off2 (w : World) (rb : Nat) (k _ : Nat) : Prop := w.heap.size < k ∧ k ≠ rb
/-- Under way: the result's two cells, a local copy of the program in block b, the reader. -/
def DrS (w u : World) (rb P b : Nat) (p : Pr) (at' ab : Option Addr) (ct cb : Nat) : Prop :=
  Gr w u none ∧ Zp u w.heap.size (.slice none 0 0) (.slice none 0 0) ∧ Zp u b (.slice at' p.types.length ct) (.slice ab p.body.length cb) ∧ InAt u (Off2 w rb) p.types at' ∧ SlAt u (Off2 w rb) p.body ab ∧ Rd u rb P
theorem DrS.gr0 {w u u' : World} {rb P b : Nat} {p : Pr} {at' ab : Option Addr} {ct cb : Nat} (h : DrS w u rb P b p at' ab ct cb) (hg : Gr u u' none) : DrS w u' rb P b p at' ab ct cb :=
  ⟨h.1.trans0 hg, h.2.1.gr hg (by simp), h.2.2.1.gr hg (by simp), h.2.2.2.1.gr0 hg, h.2.2.2.2.1.gr0 hg, h.2.2.2.2.2.gr0 hg⟩
theorem DrS.far {w u u' : World} {rb P Q b : Nat} {p : Pr} {at' ab : Option Addr} {ct cb : Nat} (h : DrS w u rb P b p at' ab ct cb) (hg : Gr u u' (some rb)) (hr : Rd u' rb Q) (h1 : w.heap.size < rb) (h2 : rb ≠ b) : DrS w u' rb Q b p at' ab ct cb :=
  ⟨h.1.trans hg (fun r e => .inr (by cases e; omega)), h.2.1.gr hg (by simp; omega), h.2.2.1.gr hg (by simp; exact h2), InAt.gr hg (fun k _ hk e => hk.2 (by cases e; rfl)) h.2.2.2.1, SlAt.gr hg (fun k _ hk e => hk.2 (by cases e; rfl)) h.2.2.2.2.1, hr⟩
theorem DrS.put {w u : World} {rb P b : Nat} {p : Pr} {at' ab : Option Addr} {ct cb : Nat} (h : DrS w u rb P b p at' ab ct cb) (h6 : p.types.length ≤ 7) (hc : St.count p.body ≤ 4000) : PrAt w (put2 u w.heap.size (.slice at' p.types.length ct) (.slice ab p.body.length cb)) p (.slice at' p.types.length ct) (.slice ab p.body.length cb) :=
  ⟨at', ab, ct, cb, rfl, rfl, (InAt.gr (put2_own _ _ _ _) (fun k _ hk e => by cases e; exact absurd hk.1 (by omega)) h.2.2.2.1).mono (fun k _ hk => by have := hk.1; unfold New; omega) (fun _ _ _ _ h => h), (SlAt.gr (put2_own _ _ _ _) (fun k _ hk e => by cases e; exact absurd hk.1 (by omega)) h.2.2.2.2.1).sub (fun k _ hk => by have := hk.1; unfold New; omega), h6, hc⟩
end Go.Proofs.Ytdnhinkjmjpnnaa
