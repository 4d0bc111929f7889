/- Walks of drawn arguments, weakly: some program in new memory, and some numbers. -/
import Derived.Test.YtdnhinkjmjpnnaaB14

namespace Go.Proofs.Ytdnhinkjmjpnnaa

open Go.RowKit

/-- A program was drawn. -/
def PrAt (w w' : World) (p : Pr) (v0 v1 : Value) : Prop := ∃ (at' ab : Option Addr) (ct cb : Nat), v0 = .slice at' p.types.length ct ∧ v1 = .slice ab p.body.length cb ∧ InAt w' (New w.heap.size) p.types at' ∧ SlAt w' (New w.heap.size) p.body ab ∧ p.types.length ≤ 7 ∧ St.count p.body ≤ 4000
def Drawn0 (w : World) (e : Ending) (w' : World) : Prop := ∃ (p : Pr) (v0 v1 : Value), e = .returned (.agg #[v0, v1]) ∧ PrAt w w' p v0 v1 ∧ Gr w w' none
/-- A program and a number were drawn. -/
def Drawn1 (w : World) (e : Ending) (w' : World) : Prop := ∃ (p : Pr) (v0 v1 : Value) (n : Int), e = .returned (.tuple #[.agg #[v0, v1], .int .i64 n]) ∧ PrAt w w' p v0 v1 ∧ -1000000 ≤ n ∧ n ≤ 1000000 ∧ Gr w w' none
/-- A program and two numbers were drawn. -/
def Drawn2 (w : World) (e : Ending) (w' : World) : Prop := ∃ (p : Pr) (v0 v1 : Value) (n m : Int), e = .returned (.tuple #[.agg #[v0, v1], .int .i64 n, .int .i64 m]) ∧ PrAt w w' p v0 v1 ∧ -1000000 ≤ n ∧ n ≤ 1000000 ∧ -1000000 ≤ m ∧ m ≤ 1000000 ∧ Gr w w' none
theorem PrAt.put {w u : World} {p : Pr} {x0 x1 v0 v1 : Value} {b n : Nat} {at' ab : Option Addr} {ct cb : Nat} (hw : w.heap.size ≤ b) (hn : b < n) (hT : InAt u (New n) p.types at') (hB : SlAt u (New n) p.body ab) (h6 : p.types.length ≤ 7) (hc : St.count p.body ≤ 4000) (e0 : v0 = .slice at' p.types.length ct) (e1 : v1 = .slice ab p.body.length cb) : PrAt w (put2 u b x0 x1) p v0 v1 :=
  ⟨at', ab, ct, cb, e0, e1, (InAt.put2 hT hn).mono (fun k _ hk => by unfold New at *; omega) (fun _ _ _ _ h => h), (SlAt.put2 hB hn).sub fun k _ hk => by unfold New at *; omega, h6, hc⟩
end Go.Proofs.Ytdnhinkjmjpnnaa
