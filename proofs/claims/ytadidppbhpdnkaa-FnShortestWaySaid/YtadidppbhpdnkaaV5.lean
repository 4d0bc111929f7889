/- Walks: the types of a program, in the program's own check. -/
/- Walks: a simple statement, in the program's own check. -/
/- Walks: a whole program's check, in the program. -/
/- Walks: a whole program's check, in the reference; and that both checks say the same. -/
/- Walks: the reference counts statements; its whole check; both checks say the same. -/
import Derived.Test.YtadidppbhpdnkaaD

import Derived.Deep.DeepCutAuto

namespace Go.Proofs.Ytadidppbhpdnkaa

open Go.RowKit

def within (n lo hi : Int) : Bool := decide (lo ≤ n) && decide (n ≤ hi)
theorem within_any (n lo hi : Int) (w : World) :
    Calls Try.prog 56 #[.int .i64 n, .int .i64 lo, .int .i64 hi] w fun e w' => e = .returned (.bool (within n lo hi)) ∧ w = w' := by
  go_enter Try.func56, Try.ntmps56
  go_wp2
  all_goals go_ret
  · simp [within, *]
  · exact ⟨by rw [within, decide_eq_false (by omega)]; rfl, rfl⟩

def okT (t : Int) : Bool := within t 1 4
theorem okT_any (t : Int) (w : World) :
    Calls Try.prog 86 #[.int .i64 t] w fun e w' => e = .returned (.bool (!okT t)) ∧ w = w' := by
  go_enter Try.func86, Try.ntmps86
  go_wp2_with (go_at_call 56; refine (within_any _ _ _ _).mono ?_; rintro e w' ⟨rfl, rfl⟩)
  go_ret
  exact ⟨rfl, rfl⟩

/-- What IndexFunc says: is there one? -/
def FoundInts (l : List Int) (w : World) (e : Ending) (w' : World) : Prop := ∃ r : Int, e = .returned (.int .i64 r) ∧ decide (0 ≤ r) = !(l.all okT) ∧ w = w'
set_option maxHeartbeats 400000 in
theorem index_any (l : List Int) (a : Option Addr) (c : Nat) (w : World) (h : InAt w Any l a) (hl : l.length ≤ 9223372036854775807) :
    Calls Try.prog 82 #[.slice a l.length c, .func (.func 86) #[] #[]] w (FoundInts l w) := by
  go_enter Try.func82, Try.ntmps82
  go_wp2
  go_loop [8] (fun i => ∃ k : Nat, k ≤ l.length ∧ i = .int .i64 k ∧ (l.take k).all okT = true) (fun i => l.length - (intOf i).toNat)
  case atStart => exact ⟨0, Nat.zero_le _, rfl, by simp⟩
  case round =>
    obtain ⟨k, hk, rfl, hall⟩ := hrel
    by_cases hlt : k < l.length
    · obtain ⟨b, off, rfl, _, hc⟩ := h.at hlt
      have HA := Lib.hid hall
      clear hall
      by_cases ho : okT l[k] = true
      · have HO := Lib.hid ho
        go_wp2_with (go_at_call 86; refine (okT_any _ _).mono ?_; rintro e w' ⟨rfl, rfl⟩)
        all_goals go_round
        case rel => exact ⟨k + 1, by omega, by go_num, all_take_succ hlt HA.out HO.out⟩
        case measure => simp [intOf]; omega
      · have ho' : okT l[k] = false := by simpa using ho
        have HO := Lib.hid ho'
        clear ho
        go_wp2_with (go_at_call 86; refine (okT_any _ _).mono ?_; rintro e w' ⟨rfl, rfl⟩)
        go_ret
        exact ⟨k, rfl, by rw [all_at_false hlt HO.out]; simp, rfl⟩
    · go_wp2
      go_ret
      exact ⟨-1, rfl, by rw [all_take_all (by omega) hall]; rfl, rfl⟩

theorem contains_any (l : List Int) (a : Option Addr) (c : Nat) (w : World) (h : InAt w Any l a) (hl : l.length ≤ 9223372036854775807) :
    Calls Try.prog 65 #[.slice a l.length c, .func (.func 86) #[] #[]] w fun e w' => e = .returned (.bool (!(l.all okT))) ∧ w = w' := by
  go_enter Try.func65, Try.ntmps65
  go_wp2_with (go_at_call 82; refine (index_any l _ _ _ h hl).mono ?_; rintro e w' ⟨r, rfl, hr, rfl⟩; have HR := Lib.hid hr; clear hr)
  go_ret
  exact ⟨by first | rfl | (have := HR.out; simp [this]), rfl⟩

def typesOk (l : List Int) : Bool := decide ((l.length : Int) ≤ 6) && l.all okT
theorem typesOk_any (l : List Int) (a : Option Addr) (c : Nat) (w : World) (h : InAt w Any l a) (hl : l.length ≤ 9223372036854775807) :
    Calls Try.prog 68 #[.slice a l.length c] w fun e w' => e = .returned (.bool (typesOk l)) ∧ w = w' := by
  go_enter Try.func68, Try.ntmps68
  go_wp2_with (go_at_call 65; refine (contains_any l _ _ _ h hl).mono ?_; rintro e w' ⟨rfl, rfl⟩)
  all_goals go_ret
  · rename_i g; exact ⟨by rw [typesOk, decide_eq_true g]; simp, rfl⟩
  · rename_i g; exact ⟨by rw [typesOk, decide_eq_false (by omega)]; rfl, rfl⟩
end Go.Proofs.Ytadidppbhpdnkaa

namespace Go.Proofs.Ytadidppbhpdnkaa

open Go.RowKit

theorem isHolder_any (t : Int) (w : World) :
    Calls Try.prog 105 #[.int .i64 t] w fun e w' => e = .returned (.bool (t == 2 || (t == 3 || t == 4))) ∧ w = w' := by
  go_enter Try.func105, Try.ntmps105
  go_wp2
  all_goals go_ret
  · exact ⟨ret_bool (by simp [*]), rfl⟩
  · exact ⟨ret_bool (by simp [*]), rfl⟩
  · rename_i g1 g2; exact ⟨ret_bool (by rw [show (t == 2) = false from by simpa using g1, show (t == 3) = false from by simpa using g2]; rfl), rfl⟩
theorem isBranch_any (t : Int) (w : World) :
    Calls Try.prog 96 #[.int .i64 t] w fun e w' => e = .returned (.bool (t == 9 || t == 10)) ∧ w = w' := by
  go_enter Try.func96, Try.ntmps96
  go_wp2
  all_goals go_ret
  all_goals exact ⟨ret_bool (by first | rfl | simp [*]), rfl⟩

/-- The type of a variable, 0 for none. -/
def tyOf (l : List Int) (v : Int) : Int := if 0 ≤ v ∧ v < l.length then l[v.toNat]?.getD 0 else 0
set_option maxHeartbeats 400000 in
theorem typeOf_any (l : List Int) (v : Int) (a : Option Addr) (c : Nat) (w : World) (h : InAt w Any l a) (hl : l.length ≤ 1048576) :
    Calls Try.prog 104 #[.slice a l.length c, .int .i64 v] w fun e w' => e = .returned (.int .i64 (tyOf l v)) ∧ w = w' := by
  by_cases hv : 0 ≤ v ∧ v < l.length
  · obtain ⟨h0, h1⟩ := hv
    obtain ⟨k, rfl⟩ := Int.eq_ofNat_of_zero_le h0
    have hk : k < l.length := by omega
    obtain ⟨b, off, rfl, _, hc⟩ := h.at hk
    have hw : within (k : Int) 0 ((l.length : Int) - 1) = true := by simp [within]; omega
    have HW := Lib.hid hw
    clear hw
    go_enter Try.func104, Try.ntmps104
    go_wp2_with (go_at_call 56; refine (within_any _ _ _ _).mono ?_; rintro e w' ⟨rfl, rfl⟩; have hw := HW.out)
    go_ret
    exact ⟨by simp [tyOf, hk], rfl⟩
  · have hw : within v 0 ((l.length : Int) - 1) = false := by simp [within]; omega
    have HW := Lib.hid hw
    have HV := Lib.hid hv
    clear hw hv
    go_enter Try.func104, Try.ntmps104
    go_wp2_with (go_at_call 56; refine (within_any _ _ _ _).mono ?_; rintro e w' ⟨rfl, rfl⟩; have hw := HW.out)
    go_ret
    exact ⟨ret_int (by rw [tyOf, if_neg HV.out]), rfl⟩

def simpleOk (types : List Int) (op X Y N : Int) (nt ne : Nat) : Bool :=
  let x := tyOf types X; let y := tyOf types Y
  let number := op == 1 || op == 2
  let two := !number && op != 8
  if number && !within N 0 9 || !number && N != 0 || !two && Y != 0 || decide (0 < (nt : Int)) || decide (0 < (ne : Int)) then false
  else if op == 1 then x == 1
  else if op == 2 || op == 8 then x == 2
  else if op == 3 then x != 0 && x == y && X != Y
  else if op == 4 then x == 3 && (y == 2 || (y == 3 || y == 4)) && X != Y
  else if op == 5 then x == 4 && (y == 2 || y == 4) && X != Y
  else if op == 6 then x == 1 && (y == 2 || (y == 3 || y == 4))
  else if op == 7 then (x == 2 || x == 4) && y == 1
  else false

set_option maxRecDepth 100000 in
set_option maxHeartbeats 4000000 in
theorem simpleOk_any (l : List Int) (op X Y N : Int) (at' ae : Option Addr) (nt ct ne ce : Nat) (a : Option Addr) (c : Nat) (w : World) (h : InAt w Any l a) (hl : l.length ≤ 1048576) :
    Calls Try.prog 97 #[.slice a l.length c, .agg #[.int .i64 op, .int .i64 X, .int .i64 Y, .int .i64 N, .slice at' nt ct, .slice ae ne ce]] w
      fun e w' => e = .returned (.bool (simpleOk l op X Y N nt ne)) ∧ Gr w w' none := by
  go_enter Try.func97, Try.ntmps97
  go_wp2_with fail
  go_quiet ((go_at_call 104; refine Calls.quiet_of_same ((typeOf_any l _ _ _ _ ?_ hl).mono fun _ _ q => ⟨q.1, q.2.symm⟩); exact h.gr0 (((Gr.refl _ _).alloc _).drewN _)))
  go_wp2_with (first | (go_at_call 56; refine (within_any _ _ _ _).mono ?_; rintro e w' ⟨rfl, rfl⟩) | (go_at_call 105; refine (isHolder_any _ _).mono ?_; rintro e w' ⟨rfl, rfl⟩))
  all_goals go_ret
  all_goals exact ⟨ret_bool (by first | rfl | (simp [simpleOk, *]; done) | (simp [simpleOk, *]; intros; simp_all; done) | (simp [simpleOk, *]; omega)), ((Gr.refl _ _).alloc _).drewN _⟩

/-! ### The same, in the reference -/

theorem l1Type_any (l : List Int) (v : Int) (a : Option Addr) (c : Nat) (w : World) (h : InAt w Any l a) :
    Calls Try.prog 110 #[.slice a l.length c, .int .i64 v] w fun e w' => e = .returned (.int .i64 (tyOf l v)) ∧ w = w' := by
  by_cases hv : 0 ≤ v ∧ v < l.length
  · obtain ⟨h0, h1⟩ := hv
    obtain ⟨k, rfl⟩ := Int.eq_ofNat_of_zero_le h0
    have hk : k < l.length := by omega
    obtain ⟨b, off, rfl, _, hc⟩ := h.at hk
    go_enter Try.func110, Try.ntmps110
    go_wp2
    go_ret
    exact ⟨ret_int (by simp [tyOf, hk]), rfl⟩
  · have HV := Lib.hid hv
    have hv' : v < 0 ∨ l.length ≤ v := by omega
    clear hv
    rcases hv' with hv' | hv'
    all_goals
      go_enter Try.func110, Try.ntmps110
      go_wp2
      all_goals go_ret
      all_goals exact ⟨ret_int (by rw [tyOf, if_neg HV.out]), rfl⟩

def simpleS (l : List Int) (op X Y N : Int) : Bool :=
  let x := tyOf l X; let y := tyOf l Y
  let number := decide (0 ≤ N) && decide (N ≤ 9)
  if op != 1 && (op != 2 && N != 0) then false
  else if op == 1 then x == 1 && (Y == 0 && number)
  else if op == 2 then x == 2 && (Y == 0 && number)
  else if op == 3 then x == y && (decide (0 < x) && X != Y)
  else if op == 4 then x == 3 && (decide (2 ≤ y) && X != Y)
  else if op == 5 then x == 4 && ((y == 2 || y == 4) && X != Y)
  else if op == 6 then x == 1 && decide (2 ≤ y)
  else if op == 7 then (x == 2 || x == 4) && y == 1
  else if op == 8 then x == 2 && Y == 0
  else false
set_option maxRecDepth 100000 in
set_option maxHeartbeats 4000000 in
theorem l1Simple_any (l : List Int) (op X Y N : Int) (at' ae : Option Addr) (nt ct ne ce : Nat) (a : Option Addr) (c : Nat) (w : World) (h : InAt w Any l a) :
    Calls Try.prog 103 #[.slice a l.length c, .agg #[.int .i64 op, .int .i64 X, .int .i64 Y, .int .i64 N, .slice at' nt ct, .slice ae ne ce]] w
      fun e w' => e = .returned (.bool (simpleS l op X Y N)) ∧ Gr w w' none := by
  go_enter Try.func103, Try.ntmps103
  go_wp2_with (go_at_call 110; refine (l1Type_any l _ _ _ _ ?_).mono ?_; (exact h.gr0 ((Gr.refl _ _).alloc _)); rintro e w' ⟨rfl, rfl⟩)
  all_goals go_ret
  all_goals refine ⟨ret_bool ?_, ((Gr.refl _ _).alloc _)⟩
  all_goals first | rfl | (simp [simpleS, *]; done) | (simp [simpleS, *]; intros; simp_all; done) | (simp [simpleS, *]; omega)
end Go.Proofs.Ytadidppbhpdnkaa

namespace Go.Proofs.Ytadidppbhpdnkaa

open Go.RowKit

mutual
/-- How many statements there are behind this one, if it is right. -/
def scan (types : List Int) : St → Int → Nat → Option Nat
  | .mk op x y n t e, d, c =>
    if 30 ≤ c then none
    else if op == 9 || op == 10 then
      if d == 4 || (x != 0 || (y != 0 || (n != 0 || (op == 10 && decide (0 < (e.length : Int)))))) then none
      else (scanAll types t (d + 1) (c + 1)).bind fun c' => scanAll types e (d + 1) c'
    else if simpleOk types op x y n t.length e.length then some (c + 1) else none
def scanAll (types : List Int) : List St → Int → Nat → Option Nat
  | [], _, c => some c
  | s :: r, d, c => (scan types s d c).bind fun c' => scanAll types r d c'
end
theorem scanAll_snoc (types : List Int) (s : St) (d : Int) : ∀ (l : List St) (c : Nat), scanAll types (l ++ [s]) d c = (scanAll types l d c).bind fun c' => scan types s d c'
  | [], c => by simp [scanAll]
  | x :: r, c => by
    simp only [List.cons_append, scanAll, Option.bind_assoc]
    cases scan types x d c with
    | none => rfl
    | some c' => simp [scanAll_snoc types s d r c']
theorem scanAll_append (types : List Int) (d : Int) (m : List St) : ∀ (l : List St) (c : Nat), scanAll types (l ++ m) d c = (scanAll types l d c).bind fun c' => scanAll types m d c'
  | [], c => by simp [scanAll]
  | x :: r, c => by
    simp only [List.cons_append, scanAll, Option.bind_assoc]
    cases scan types x d c with
    | none => rfl
    | some c' => simp [scanAll_append types d m r c']
theorem scanAll_take {types : List Int} {l : List St} {d : Int} {c c' k : Nat} (h : k < l.length) (h1 : scanAll types (l.take k) d c = some c') : scanAll types (l.take (k + 1)) d c = scan types l[k] d c' := by
  rw [List.take_succ_eq_append_getElem h, scanAll_snoc, h1]; rfl
theorem scanAll_none {types : List Int} {l : List St} {d : Int} {c c' k : Nat} (h : k < l.length) (h1 : scanAll types (l.take k) d c = some c') (h2 : scan types l[k] d c' = none) : scanAll types l d c = none := by
  have e : l = l.take (k + 1) ++ l.drop (k + 1) := (List.take_append_drop _ _).symm
  rw [e, scanAll_append, scanAll_take h h1, h2]; rfl

mutual
theorem scan_le {types : List Int} : ∀ {s : St} {d : Int} {c c' : Nat}, scan types s d c = some c' → c' ≤ 30
  | .mk op x y n t e, d, c, c', h => by
    simp only [scan] at h
    split at h
    · simp at h
    · split at h
      · split at h
        · simp at h
        · rw [Option.bind_eq_some_iff] at h
          obtain ⟨c1, h1, h2⟩ := h
          have := scanAll_le h1 (by omega)
          exact scanAll_le h2 this
      · split at h
        · simp at h; omega
        · simp at h
theorem scanAll_le {types : List Int} : ∀ {l : List St} {d : Int} {c c' : Nat}, scanAll types l d c = some c' → c ≤ 30 → c' ≤ 30
  | [], d, c, c', h, hc => by simp [scanAll] at h; omega
  | s :: r, d, c, c', h, hc => by
    simp only [scanAll, Option.bind_eq_some_iff] at h
    obtain ⟨c1, h1, h2⟩ := h
    exact scanAll_le h2 (scan_le h1)
end
theorem count_get {l : List St} {k : Nat} (h : k < l.length) : l[k].inner + 1 ≤ St.count l := by
  induction l generalizing k with
  | nil => simp at h
  | cons x r ih =>
    cases k with
    | zero => simp only [List.getElem_cons_zero, St.count]; omega
    | succ k => have := ih (k := k) (by simpa using h); simp only [List.getElem_cons_succ, St.count]; omega

/-- The counter's block. -/
def Cnt (w : World) (cb : Nat) (c : Nat) : Prop := w.heap[cb]? = some (.cells #[.int .i64 c] 3 (0, 0))
/-- What a scan leaves. -/
def Scanned (r : Option Nat) (cb : Nat) (w : World) (e : Ending) (w' : World) : Prop :=
  ∃ c2 : Nat, e = .returned (.bool r.isSome) ∧ Cnt w' cb c2 ∧ (∀ c', r = some c' → c2 = c') ∧ Gr w w' (some cb)

def ScanC (types : List Int) (n : Nat) : Prop := ∀ (s : St) (at' ae : Option Addr) (ct ce : Nat) (a : Option Addr) (cp cb c : Nat) (d : Int) (w : World), s.inner + 1 ≤ n → 0 ≤ d → d ≤ 4 → c ≤ 30 → types.length ≤ 1048576 →
  InAt w (Off (some cb)) types a → SlAt w (Off (some cb)) s.thn at' → SlAt w (Off (some cb)) s.els ae → s.thn.length ≤ maxLen → s.els.length ≤ maxLen → Cnt w cb c →
  Calls Try.prog 87 #[.slice a types.length cp, .agg #[.int .i64 s.op, .int .i64 s.x, .int .i64 s.y, .int .i64 s.n, .slice at' s.thn.length ct, .slice ae s.els.length ce], .int .i64 d, .pointer (some ⟨cb, 0, none⟩)] w
    (Scanned (scan types s d c) cb w)
def AllC (types : List Int) (n : Nat) : Prop := ∀ (l : List St) (al : Option Addr) (cl : Nat) (a : Option Addr) (cp cb c : Nat) (d : Int) (w : World), St.count l ≤ n → 0 ≤ d → d ≤ 4 → c ≤ 30 → types.length ≤ 1048576 → l.length ≤ maxLen →
  InAt w (Off (some cb)) types a → SlAt w (Off (some cb)) l al → Cnt w cb c →
  Calls Try.prog 69 #[.slice a types.length cp, .slice al l.length cl, .int .i64 d, .pointer (some ⟨cb, 0, none⟩)] w
    (Scanned (scanAll types l d c) cb w)

theorem Cnt.lt {w : World} {cb c : Nat} (h : Cnt w cb c) : cb < w.heap.size := (Array.getElem?_eq_some_iff.1 h).1
theorem Cnt.cell {w : World} {cb c : Nat} (h : Cnt w cb c) : w.cell? ⟨cb, 0, none⟩ = some (.int .i64 c) := cell_of_one h
theorem Cnt.free {w : World} {cb c : Nat} (h : Cnt w cb c) : w.frozen? ⟨cb, 0, none⟩ = false := free_of_one h
theorem Cnt.alloc {w : World} {cb c : Nat} (h : Cnt w cb c) (o : Obj) : Cnt (w.alloc o) cb c := by
  have := Below.heap_alloc w o cb h.lt
  unfold Cnt; rw [this]; exact h
theorem Cnt.set {w : World} {cb c : Nat} (h : Cnt w cb c) (c' : Nat) : Cnt (w.setCell ⟨cb, 0, none⟩ (.int .i64 c')) cb c' := one_setCell h
theorem Cnt.gr {w w' : World} {cb c : Nat} {row : Option Nat} (h : Cnt w cb c) (hg : Gr w w' row) (hr : row ≠ some cb) : Cnt w' cb c := by
  unfold Cnt; rw [hg.block cb h.lt (fun e => hr e.symm)]; exact h

theorem off_ne (cb : Nat) : ∀ b o, Off (some cb) b o → some cb ≠ some b := fun _ _ h => h

set_option maxRecDepth 100000 in
set_option maxHeartbeats 1000000 in
theorem all_step (types : List Int) (n : Nat) (hS : ScanC types n) : AllC types n := by
  intro l al cl a cp cb c d w hn hd0 hd hc hty hl hI hL hC
  have HS := Lib.hid hS
  clear hS
  unfold maxLen at hl
  go_enter Try.func69, Try.ntmps69
  go_wp2
  go_loopw [13] (fun i wr => ∃ k c' : Nat, k ≤ l.length ∧ i = .int .i64 k ∧ c' ≤ 30 ∧ Cnt wr cb c' ∧ scanAll types (l.take k) d c = some c' ∧ Gr w wr (some cb)) (fun i _ => l.length - (intOf i).toNat)
  case atStart => exact ⟨0, c, Nat.zero_le _, rfl, hc, hC, by simp [scanAll], Gr.refl _ _⟩
  case round =>
    obtain ⟨k, c', hk, rfl, hc', hCr, hsc, hgr⟩ := hrel
    have HSC := Lib.hid hsc
    clear hsc
    by_cases hlt : k < l.length
    · have hLr := hL.gr hgr (off_ne cb)
      obtain ⟨b, off, rfl, hs⟩ := hLr.at hlt
      obtain ⟨s, es⟩ : ∃ s, l[k] = s := ⟨_, rfl⟩
      have hin := count_get hlt
      rw [es] at hs hin
      have ES := Lib.hid es
      clear es
      obtain ⟨_, ht, he, at', ct, ae, ce, c0, c1, c2, c3, c4, c5, r4, r5⟩ := hs.out
      cases hr : scan types s d c' with
      | none =>
        have HR := Lib.hid hr
        clear hr
        go_wp2_with fail
        refine (HS.out s at' ae ct ce a cp cb c' d _ (by omega) hd0 hd hc' hty (hI.gr (hgr.alloc _) (off_ne cb)) (r4.gr0 ((Gr.refl _ _).alloc _)) (r5.gr0 ((Gr.refl _ _).alloc _)) ht he (hCr.alloc _)).mono ?_
        rw [HR.out]
        rintro e w' ⟨cn, rfl, hC2, hcc, hg2⟩
        clear c0 c1 c2 c3 c4 c5 hs r4 r5
        go_wp2_with fail
        go_ret
        exact ⟨_, ret_bool (by rw [scanAll_none hlt HSC.out (by rw [ES.out]; exact HR.out)]; rfl), hC2, fun c'' h => by rw [scanAll_none hlt HSC.out (by rw [ES.out]; exact HR.out)] at h; simp at h, (hgr.alloc _).trans hg2 (fun r hr => .inl hr)⟩
      | some c3' =>
        have HR := Lib.hid hr
        clear hr
        go_wp2_with fail
        refine (HS.out s at' ae ct ce a cp cb c' d _ (by omega) hd0 hd hc' hty (hI.gr (hgr.alloc _) (off_ne cb)) (r4.gr0 ((Gr.refl _ _).alloc _)) (r5.gr0 ((Gr.refl _ _).alloc _)) ht he (hCr.alloc _)).mono ?_
        rw [HR.out]
        rintro e w' ⟨cn, rfl, hC2, hcc, hg2⟩
        obtain rfl := hcc c3' rfl
        clear c0 c1 c2 c3 c4 c5 hs r4 r5 hcc
        go_wp2_with fail
        go_roundw
        case rel => exact ⟨k + 1, cn, by omega, by go_num, scan_le HR.out, hC2, by rw [scanAll_take hlt HSC.out, ES.out]; exact HR.out, (hgr.alloc _).trans hg2 (fun r hr => .inl hr)⟩
        case measure => simp [intOf]; omega
    · have hfin := HSC.out
      rw [List.take_of_length_le (by omega)] at hfin
      have HF := Lib.hid hfin
      clear hfin
      go_wp2
      go_ret
      exact ⟨c', ret_bool (by rw [HF.out]; rfl), hCr, fun c'' h => by rw [HF.out] at h; simpa using h, hgr⟩

theorem World.cell?_new5 {w : World} {cb : Nat} {u v0 v1 v2 v3 v4 v5 : Value} {t : TypeId}   :
    ((w.setCell ⟨cb, 0, none⟩ u).alloc (.cells #[v0, v1, v2, v3, v4, v5] t)).cell? ⟨w.heap.size, 5, none⟩ = some v5 := by
  have hsz : (w.setCell ⟨cb, 0, none⟩ u).heap.size = w.heap.size := by simp [World.setCell]
  have := heap_alloc_new (w.setCell ⟨cb, 0, none⟩ u) (.cells #[v0, v1, v2, v3, v4, v5] t)
  rw [hsz] at this
  unfold World.cell?
  rw [this]
  rfl

set_option maxRecDepth 100000 in
set_option maxHeartbeats 1000000 in
theorem scan_step (types : List Int) (n : Nat) (hA : AllC types n) : ScanC types (n + 1) := by
  intro s at' ae ct ce a cp cb c d w hn hd0 hd hc hty hI hT hE hnt hne hC
  obtain ⟨op, x, y, nn, t, e⟩ := s
  simp only [St.thn, St.els, St.op, St.x, St.y, St.n, St.inner] at *
  have HA := Lib.hid hA
  clear hA
  unfold maxLen at hnt hne
  have hc0 : ∀ o, (w.alloc o).cell? ⟨cb, 0, none⟩ = some (.int .i64 c) := fun o => (hC.alloc o).cell
  have hf0 : ∀ o, (w.alloc o).frozen? ⟨cb, 0, none⟩ = false := fun o => (hC.alloc o).free
  have hlt := hC.lt
  have hC1 : Cnt (w.setCell ⟨cb, 0, none⟩ (.int .i64 ((c : Int) + 1))) cb (c + 1) := one_setCell hC
  have hc1 : (w.setCell ⟨cb, 0, none⟩ (.int .i64 ((c : Int) + 1))).cell? ⟨cb, 0, none⟩ = some (.int .i64 ((c : Int) + 1)) := hC1.cell
  have hW1 : ∀ o, Gr w ((w.setCell ⟨cb, 0, none⟩ (.int .i64 ((c : Int) + 1))).alloc o) (some cb) := fun o => ((Gr.refl _ _).setOwn rfl _).alloc _
  by_cases h30 : 30 ≤ c
  · have hs : scan types (.mk op x y nn t e) d c = none := by simp [scan, h30]
    have HS := Lib.hid hs
    clear hs
    go_enter Try.func87, Try.ntmps87
    go_wp2_with fail
    go_ret
    exact ⟨c + 1, ret_bool (by rw [HS.out]; rfl), hC1.alloc _, fun c'' h => by (rw [HS.out] at h; simp at h), ((Gr.refl _ _).setOwn rfl _).alloc _⟩
  · by_cases hb : op = 9 ∨ op = 10
    · have hb1 : (op == 9 || op == 10) = true := by simpa using hb
      have HB := Lib.hid hb1
      clear hb1
      have hs : scan types (.mk op x y nn t e) d c = if d == 4 || (x != 0 || (y != 0 || (nn != 0 || (op == 10 && decide (0 < (e.length : Int)))))) then none
          else (scanAll types t (d + 1) (c + 1)).bind fun c' => scanAll types e (d + 1) c' := by simp only [scan, HB.out, if_neg h30, if_true]
      have HS := Lib.hid hs
      clear hs
      obtain ⟨r1, hr1⟩ : ∃ r, scanAll types t (d + 1) (c + 1) = r := ⟨_, rfl⟩
      have HR1 := Lib.hid hr1
      clear hr1
      go_enter Try.func87, Try.ntmps87
      go_upto_region 8 with (first | (go_at_call 96; refine (isBranch_any _ _).mono ?_; rw [HB.out]; rintro e w' ⟨rfl, rfl⟩))
      all_goals first
        | (go_ret; exact ⟨c + 1, ret_bool (by rw [HS.out, if_pos (by simp [*])]; rfl), hC1.alloc _, fun c'' h => by (rw [HS.out, if_pos (by simp [*])] at h; simp at h), ((Gr.refl _ _).setOwn rfl _).alloc _⟩)
        | skip
      all_goals
        have HN := Lib.hid (HS.out.trans (if_neg (by simp [*])))
        clear HS
        cases r1 with
        | none =>
          go_wp2_with fail
          refine (HA.out t at' ct a cp cb (c + 1) (d + 1) _ (by omega) (by omega) (by omega) (by omega) hty hnt (hI.gr (hW1 _) (off_ne cb)) (hT.gr (hW1 _) (off_ne cb)) (hC1.alloc _)).mono ?_
          rw [HR1.out]
          rintro e' w' ⟨cn, rfl, hC2, hcc, hg2⟩
          go_wp2_with fail
          go_ret
          exact ⟨cn, ret_bool (by rw [HN.out, HR1.out]; rfl), hC2, fun c'' h => by (rw [HN.out, HR1.out] at h; simp at h), (hW1 _).trans hg2 (fun r hr => .inl hr)⟩
        | some c1 =>
          go_wp2_with fail
          refine (HA.out t at' ct a cp cb (c + 1) (d + 1) _ (by omega) (by omega) (by omega) (by omega) hty hnt (hI.gr (hW1 _) (off_ne cb)) (hT.gr (hW1 _) (off_ne cb)) (hC1.alloc _)).mono ?_
          rw [HR1.out]
          rintro e' w' ⟨cn, rfl, hC2, hcc, hg2⟩
          obtain rfl := hcc c1 rfl
          clear hcc
          have q4 : w'.cell? ⟨w.heap.size, 5, none⟩ = some (.slice ae e.length ce) := hg2.cell (p := ⟨w.heap.size, 5, none⟩) World.cell?_new5 (by intro h; injection h with h; simp at h; omega)
          have q5 := scanAll_le HR1.out (by omega)
          cases hr2 : scanAll types e (d + 1) cn with
          | none =>
            have HR2 := Lib.hid hr2
            clear hr2
            go_wp2_with fail
            refine (HA.out e ae ce a cp cb cn (d + 1) _ (by omega) (by omega) (by omega) q5 hty hne ((hI.gr (hW1 _) (off_ne cb)).gr hg2 (off_ne cb)) ((hE.gr (hW1 _) (off_ne cb)).gr hg2 (off_ne cb)) hC2).mono ?_
            rw [HR2.out]
            rintro e' w'' ⟨cn2, rfl, hC3, hcc, hg3⟩
            go_wp2_with fail
            go_ret
            exact ⟨cn2, ret_bool (by rw [HN.out, HR1.out]; simp [HR2.out]), hC3, fun c'' h => by (rw [HN.out, HR1.out] at h; simp [HR2.out] at h), ((hW1 _).trans hg2 (fun r hr => .inl hr)).trans hg3 (fun r hr => .inl hr)⟩
          | some c2' =>
            have HR2 := Lib.hid hr2
            clear hr2
            go_wp2_with fail
            refine (HA.out e ae ce a cp cb cn (d + 1) _ (by omega) (by omega) (by omega) q5 hty hne ((hI.gr (hW1 _) (off_ne cb)).gr hg2 (off_ne cb)) ((hE.gr (hW1 _) (off_ne cb)).gr hg2 (off_ne cb)) hC2).mono ?_
            rw [HR2.out]
            rintro e' w'' ⟨cn2, rfl, hC3, hcc, hg3⟩
            obtain rfl := hcc c2' rfl
            go_wp2_with fail
            go_ret
            exact ⟨cn2, ret_bool (by rw [HN.out, HR1.out]; simp [HR2.out]), hC3, fun c'' h => by (rw [HN.out, HR1.out] at h; simpa [HR2.out] using h), ((hW1 _).trans hg2 (fun r hr => .inl hr)).trans hg3 (fun r hr => .inl hr)⟩
    · have hb1 : (op == 9 || op == 10) = false := by simp; omega
      have hs : scan types (.mk op x y nn t e) d c = if simpleOk types op x y nn t.length e.length then some (c + 1) else none := by simp [scan, h30, hb1]
      have HS := Lib.hid hs
      clear hs
      have HB := Lib.hid hb1
      clear hb1
      go_enter Try.func87, Try.ntmps87
      go_wp2_with (first | (go_at_call 96; refine (isBranch_any _ _).mono ?_; rw [HB.out]; rintro e w' ⟨rfl, rfl⟩) | (go_at_call 97; refine (simpleOk_any types _ _ _ _ _ _ _ _ _ _ _ _ _ (by exact (hI.gr (((Gr.refl _ _).setOwn rfl _).alloc _) (off_ne cb)).any) hty).mono ?_; rintro e w' ⟨rfl, hg⟩))
      go_ret
      exact ⟨c + 1, ret_bool (by rw [HS.out]; split <;> simp_all), (hC1.alloc _).gr hg (by simp), fun c'' h => by (rw [HS.out] at h; split at h <;> simp_all), (((Gr.refl _ _).setOwn rfl _).alloc _).trans0 hg⟩

theorem scan_all (types : List Int) : ∀ n, ScanC types n ∧ AllC types n
  | 0 => ⟨fun s _ _ _ _ _ _ _ _ _ _ h => absurd h (by omega), all_step types 0 (fun s _ _ _ _ _ _ _ _ _ _ h => absurd h (by omega))⟩
  | n + 1 => ⟨scan_step types n (scan_all types n).2, all_step types (n + 1) (scan_step types n (scan_all types n).2)⟩

/-- The program's own check. -/
def validP (p : Pr) : Bool := typesOk p.types && (scanAll p.types p.body 0 0).isSome

set_option maxRecDepth 100000 in
set_option maxHeartbeats 1000000 in
theorem valid_any (p : Pr) (at' ab : Option Addr) (ct cb : Nat) (w : World) (hT : InAt w Any p.types at') (hB : SlAt w Any p.body ab) (hlt : p.types.length ≤ 1048576) (hlb : p.body.length ≤ 1048576) :
    Calls Try.prog 37 #[.agg #[.slice at' p.types.length ct, .slice ab p.body.length cb]] w fun e w' => e = .returned (.bool (validP p)) ∧ Gr w w' none := by
  go_enter Try.func37, Try.ntmps37
  go_wp2_with (go_at_call 68; refine (typesOk_any p.types _ _ _ ?_ (by omega)).mono ?_; (exact hT.gr0 (((Gr.refl _ _).alloc _).alloc _)); rintro e w' ⟨rfl, rfl⟩)
  · have hty : typesOk p.types = true := by assumption
    obtain ⟨r, hr⟩ : ∃ r, scanAll p.types p.body 0 0 = r := ⟨_, rfl⟩
    have HR := Lib.hid hr
    clear hr
    refine ((scan_all p.types _).2 p.body ab cb at' ct _ 0 0 _ (Nat.le_refl _) (by omega) (by omega) (by omega) hlt (by unfold maxLen; omega)
      ((hT.old (by omega)).gr0 (((Gr.refl _ _).alloc _).alloc _)) ((hB.old (by omega)).gr0 (((Gr.refl _ _).alloc _).alloc _)) (heap2_1 _ _ _)).mono ?_
    rw [HR.out]
    rintro e' w' ⟨cn, rfl, hC2, hcc, hg2⟩
    go_wp2_with fail
    go_ret
    exact ⟨ret_bool (by rw [validP, hty, HR.out]; rfl), (((Gr.refl _ _).alloc _).alloc _).trans hg2 (fun r hr => .inr (by injection hr with hr; omega))⟩
  · have hty : typesOk p.types = false := by assumption
    go_ret
    exact ⟨ret_bool (by rw [validP, hty]; rfl), ((Gr.refl _ _).alloc _).alloc _⟩
end Go.Proofs.Ytadidppbhpdnkaa

namespace Go.Proofs.Ytadidppbhpdnkaa

open Go.RowKit

set_option maxHeartbeats 400000 in
theorem l1Types_any (l : List Int) (a : Option Addr) (c : Nat) (w : World) (h : InAt w Any l a) (hl : l.length ≤ 1048576) :
    Calls Try.prog 83 #[.slice a l.length c] w fun e w' => e = .returned (.bool (typesOk l)) ∧ w = w' := by
  go_enter Try.func83, Try.ntmps83
  go_wp2
  go_loop [3] (fun i => ∃ k : Nat, k ≤ l.length ∧ i = .int .i64 k ∧ (l.take k).all okT = true) (fun i => l.length - (intOf i).toNat)
  case atStart => exact ⟨0, Nat.zero_le _, rfl, by simp⟩
  case round =>
    obtain ⟨k, hk, rfl, hall⟩ := hrel
    have HA := Lib.hid hall
    clear hall
    by_cases hlt : k < l.length
    · obtain ⟨b, off, rfl, _, hc⟩ := h.at hlt
      obtain ⟨x, ex⟩ : ∃ x, l[k] = x := ⟨_, rfl⟩
      rw [ex] at hc
      have EX := Lib.hid ex
      clear ex
      by_cases h1 : x < 1
      · go_wp2
        go_ret
        exact ⟨ret_bool (by rw [typesOk, all_at_false hlt (by rw [EX.out]; simp [okT, within]; omega)]; simp), rfl⟩
      · by_cases h2 : 4 < x
        · go_wp2
          go_ret
          exact ⟨ret_bool (by rw [typesOk, all_at_false hlt (by rw [EX.out]; simp [okT, within]; omega)]; simp), rfl⟩
        · go_wp2
          go_round
          case rel => exact ⟨k + 1, by omega, by go_num, all_take_succ hlt HA.out (by rw [EX.out]; simp [okT, within]; omega)⟩
          case measure => simp [intOf]; omega
    · have hf := all_take_all (by omega) HA.out
      have HF := Lib.hid hf
      clear hf
      go_wp2
      all_goals go_ret
      all_goals exact ⟨ret_bool (by rw [typesOk, HF.out]; simp), rfl⟩

mutual
def stS (types : List Int) : St → Int → Bool
  | .mk op x y n t e, d =>
    if op != 9 && op != 10 then (t.length : Int) == 0 && ((e.length : Int) == 0 && simpleS types op x y n)
    else if decide (d < 1) || (x != 0 || (y != 0 || (n != 0 || (op == 10 && decide (0 < (e.length : Int)))))) then false
    else bodyS types t (d - 1) && bodyS types e (d - 1)
def bodyS (types : List Int) : List St → Int → Bool
  | [], _ => true
  | s :: r, d => stS types s d && bodyS types r d
end
theorem bodyS_all (types : List Int) (d : Int) : ∀ l : List St, bodyS types l d = l.all fun s => stS types s d
  | [] => rfl
  | s :: r => by simp [bodyS, bodyS_all types d r]

/-- How the values of a statement stand in a call. -/
def StC (types : List Int) (n : Nat) : Prop := ∀ (s : St) (at' ae : Option Addr) (ct ce : Nat) (a : Option Addr) (cp : Nat) (d : Int) (w : World), s.inner + 1 ≤ n → d ≤ 4 → -10 ≤ d →
  InAt w Any types a → SlAt w Any s.thn at' → SlAt w Any s.els ae → s.thn.length ≤ maxLen → s.els.length ≤ maxLen →
  Calls Try.prog 95 #[.slice a types.length cp, .agg #[.int .i64 s.op, .int .i64 s.x, .int .i64 s.y, .int .i64 s.n, .slice at' s.thn.length ct, .slice ae s.els.length ce], .int .i64 d] w
    fun e w' => e = .returned (.bool (stS types s d)) ∧ Gr w w' none
def BodyC (types : List Int) (n : Nat) : Prop := ∀ (l : List St) (al : Option Addr) (cl : Nat) (a : Option Addr) (cp : Nat) (d : Int) (w : World), St.count l ≤ n → d ≤ 4 → -10 ≤ d → l.length ≤ maxLen →
  InAt w Any types a → SlAt w Any l al →
  Calls Try.prog 84 #[.slice a types.length cp, .slice al l.length cl, .int .i64 d] w fun e w' => e = .returned (.bool (bodyS types l d)) ∧ Gr w w' none

set_option maxRecDepth 100000 in
set_option maxHeartbeats 1000000 in
theorem body_step (types : List Int) (n : Nat) (hS : StC types n) : BodyC types n := by
  intro l al cl a cp d w hn hd hd0 hl hI hL
  have HS := Lib.hid hS
  clear hS
  unfold maxLen at hl
  go_enter Try.func84, Try.ntmps84
  go_wp2
  go_loopw [7] (fun i wr => ∃ k : Nat, k ≤ l.length ∧ i = .int .i64 k ∧ ((l.take k).all fun s => stS types s d) = true ∧ Gr w wr none) (fun i _ => l.length - (intOf i).toNat)
  case atStart => exact ⟨0, Nat.zero_le _, rfl, by simp, Gr.refl _ _⟩
  case round =>
    obtain ⟨k, hk, rfl, hall, hgr⟩ := hrel
    have HA := Lib.hid hall
    clear hall
    by_cases hlt : k < l.length
    · obtain ⟨b, off, rfl, hs⟩ := (hL.gr0 hgr).at hlt
      obtain ⟨s, es⟩ : ∃ s, l[k] = s := ⟨_, rfl⟩
      have hin := count_get hlt
      rw [es] at hs hin
      have ES := Lib.hid es
      clear es
      obtain ⟨_, ht, he, at', ct, ae, ce, c0, c1, c2, c3, c4, c5, r4, r5⟩ := hs.out
      cases hr : stS types s d with
      | false =>
        have HR := Lib.hid hr
        clear hr
        go_wp2_with fail
        refine (HS.out s at' ae ct ce a cp d _ (by omega) hd hd0 (hI.gr0 hgr) r4 r5 ht he).mono ?_
        rw [HR.out]
        rintro e w' ⟨rfl, hg2⟩
        go_wp2_with fail
        go_ret
        exact ⟨ret_bool (by rw [bodyS_all, all_at_false hlt (by rw [ES.out]; exact HR.out)]), hgr.trans0 hg2⟩
      | true =>
        have HR := Lib.hid hr
        clear hr
        go_wp2_with fail
        refine (HS.out s at' ae ct ce a cp d _ (by omega) hd hd0 (hI.gr0 hgr) r4 r5 ht he).mono ?_
        rw [HR.out]
        rintro e w' ⟨rfl, hg2⟩
        clear c0 c1 c2 c3 c4 c5 hs r4 r5
        go_wp2_with fail
        go_roundw
        case rel => exact ⟨k + 1, by omega, by go_num, all_take_succ hlt HA.out (by rw [ES.out]; exact HR.out), hgr.trans0 hg2⟩
        case measure => simp [intOf]; omega
    · have hf := all_take_all (by omega) HA.out
      have HF := Lib.hid hf
      clear hf
      go_wp2
      go_ret
      exact ⟨ret_bool (by rw [bodyS_all, HF.out]), hgr⟩

theorem cell?_new6 (w : World) {v0 v1 v2 v3 v4 v5 : Value} (t : TypeId) :
    (w.alloc (.cells #[v0, v1, v2, v3, v4, v5] t)).cell? ⟨w.heap.size, 4, none⟩ = some v4 ∧ (w.alloc (.cells #[v0, v1, v2, v3, v4, v5] t)).cell? ⟨w.heap.size, 5, none⟩ = some v5 := by
  have := heap_alloc_new w (.cells #[v0, v1, v2, v3, v4, v5] t)
  unfold World.cell?
  rw [this]
  exact ⟨rfl, rfl⟩
set_option maxRecDepth 100000 in
set_option maxHeartbeats 1000000 in
theorem st_step (types : List Int) (n : Nat) (hA : BodyC types n) : StC types (n + 1) := by
  intro s at' ae ct ce a cp d w hn hd hd0 hI hT hE hnt hne
  obtain ⟨op, x, y, nn, t, e⟩ := s
  simp only [St.thn, St.els, St.op, St.x, St.y, St.n, St.inner] at *
  have HA := Lib.hid hA
  clear hA
  unfold maxLen at hnt hne
  obtain ⟨r1, hr1⟩ : ∃ r, bodyS types t (d - 1) = r := ⟨_, rfl⟩
  have HR1 := Lib.hid hr1
  clear hr1
  go_enter Try.func95, Try.ntmps95
  go_upto_region 5 with (first | (go_at_call 103; refine (l1Simple_any types _ _ _ _ _ _ _ _ _ _ _ _ _ (by exact hI.gr0 ((Gr.refl _ _).alloc _))).mono ?_; rintro e' w' ⟨rfl, hg⟩))
  all_goals first
    | (go_ret; refine ⟨ret_bool ?_, ((Gr.refl _ _).alloc _)⟩; first | (simp [stS, *]; done) | (simp [stS, *]; omega) | (simp_all [stS]; done) | (simp_all [stS]; omega))
    | (go_ret; refine ⟨ret_bool ?_, ((Gr.refl _ _).alloc _).trans0 (by assumption)⟩; first | (simp [stS, *]; done) | (simp [stS, *]; omega) | (simp_all [stS]; done))
    | (have h1 : (op != 10) = false := by assumption
       have h2 : ¬ op = 10 := by assumption
       exfalso; simp at h1; omega)
    | skip
  all_goals
    have hs : stS types (.mk op x y nn t e) d = (bodyS types t (d - 1) && bodyS types e (d - 1)) := by first | (simp [stS, *]; done) | (simp [stS, *]; omega) | (simp_all [stS]; done) | (simp_all [stS]; omega)
    have HS := Lib.hid hs
    clear hs
    cases r1 with
    | false =>
      go_wp2_with fail
      refine (HA.out t at' ct a cp (d - 1) _ (by omega) (by omega) (by omega) hnt (hI.gr0 ((Gr.refl _ _).alloc _)) (hT.gr0 ((Gr.refl _ _).alloc _))).mono ?_
      rw [HR1.out]
      rintro e' w' ⟨rfl, hg2⟩
      go_wp2_with fail
      go_ret
      exact ⟨ret_bool (by rw [HS.out, HR1.out]; rfl), ((Gr.refl _ _).alloc _).trans0 hg2⟩
    | true =>
      go_wp2_with fail
      refine (HA.out t at' ct a cp (d - 1) _ (by omega) (by omega) (by omega) hnt (hI.gr0 ((Gr.refl _ _).alloc _)) (hT.gr0 ((Gr.refl _ _).alloc _))).mono ?_
      rw [HR1.out]
      rintro e' w' ⟨rfl, hg2⟩
      have q4 : w'.cell? ⟨w.heap.size, 5, none⟩ = some (.slice ae e.length ce) := hg2.cell (p := ⟨w.heap.size, 5, none⟩) (cell?_new6 _ _).2 (by simp)
      go_wp2_with fail
      refine (HA.out e ae ce a cp (d - 1) _ (by omega) (by omega) (by omega) hne ((hI.gr0 ((Gr.refl _ _).alloc _)).gr0 hg2) ((hE.gr0 ((Gr.refl _ _).alloc _)).gr0 hg2)).mono ?_
      rintro e' w'' ⟨rfl, hg3⟩
      go_wp2_with fail
      go_ret
      exact ⟨ret_bool (by rw [HS.out, HR1.out]; rfl), (((Gr.refl _ _).alloc _).trans0 hg2).trans0 hg3⟩
theorem st_all (types : List Int) : ∀ n, StC types n ∧ BodyC types n
  | 0 => ⟨fun s _ _ _ _ _ _ _ _ h => absurd h (by omega), body_step types 0 (fun s _ _ _ _ _ _ _ _ h => absurd h (by omega))⟩
  | n + 1 => ⟨st_step types n (st_all types n).2, body_step types (n + 1) (st_step types n (st_all types n).2)⟩
end Go.Proofs.Ytadidppbhpdnkaa

namespace Go.Proofs.Ytadidppbhpdnkaa

open Go.RowKit

theorem count_take_le (l : List St) (k : Nat) : St.count (l.take k) ≤ St.count l := by
  induction l generalizing k with
  | nil => simp [St.count]
  | cons s r ih =>
    cases k with
    | zero => simp [St.count]
    | succ k => have := ih k; simp only [List.take_succ_cons, St.count]; omega
theorem count_take_succ {l : List St} {k : Nat} (h : k < l.length) : St.count (l.take (k + 1)) = St.count (l.take k) + 1 + l[k].inner := by
  induction l generalizing k with
  | nil => simp at h
  | cons s r ih =>
    cases k with
    | zero => simp [St.count]
    | succ k =>
      have := ih (k := k) (by simpa using h)
      simp only [List.take_succ_cons, St.count, List.getElem_cons_succ]
      omega

/-- The count of a list, or something above m where the list's count is above m. -/
def Counted (l : List St) (m : Int) (w : World) (e : Ending) (w' : World) : Prop :=
  ∃ r : Int, e = .returned (.int .i64 r) ∧ 0 ≤ r ∧ r ≤ St.count l ∧ (r = St.count l ∨ m < r) ∧ w = w'

set_option maxRecDepth 100000 in
set_option maxHeartbeats 1000000 in
theorem count_any (n : Nat) : ∀ (l : List St) (a : Option Addr) (c : Nat) (m : Int) (w : World), St.count l ≤ n → n ≤ 1048576 → 0 ≤ m → m ≤ 1048576 → l.length ≤ maxLen → SlAt w Any l a →
    Calls Try.prog 85 #[.slice a l.length c, .int .i64 m] w (Counted l m w) := by
  induction n with
  | zero =>
    intro l a c m w hn _ h0 h1 _ hL
    cases l with
    | cons s r => simp only [St.count] at hn; omega
    | nil =>
      go_enter Try.func85, Try.ntmps85
      go_wp2
      refine wp_loop_rounds 1 ?_
      rw [rounds_succ]
      go_wp2
      go_ret
      exact ⟨0, rfl, by omega, by simp [St.count], .inl (by simp [St.count]), rfl⟩
  | succ n ih =>
    intro l a c m w hn hn2 h0 h1 hl hL
    have IH := Lib.hid ih
    clear ih
    unfold maxLen at hl
    go_enter Try.func85, Try.ntmps85
    go_wp2
    go_loop [5, 6] (fun r i => ∃ (k : Nat) (q : Int), k ≤ l.length ∧ i = .int .i64 k ∧ r = .int .i64 q ∧ 0 ≤ q ∧ q ≤ St.count (l.take k) ∧ (q = St.count (l.take k) ∨ m < q)) (fun _ i => l.length - (intOf i).toNat)
    case atStart => exact ⟨0, 0, Nat.zero_le _, rfl, rfl, by omega, by simp [St.count], .inl (by simp [St.count])⟩
    case round =>
      obtain ⟨k, q, hk, rfl, rfl, hq0, hq1, hq2⟩ := hrel
      have hct := count_take_le l k
      by_cases hlt : k < l.length
      · have hct2 := count_take_le l (k + 1)
        have hcs := count_take_succ hlt
        obtain ⟨b, off, rfl, hs⟩ := hL.at hlt
        obtain ⟨s, es⟩ : ∃ s, l[k] = s := ⟨_, rfl⟩
        have hin := count_get hlt
        rw [es] at hs hin hcs
        clear es
        obtain ⟨_, ht, he, at', ct, ae, ce, c0, c1, c2, c3, c4, c5, r4, r5⟩ := hs.out
        obtain ⟨op, x, y, nn, t, e⟩ := s
        simp only [St.thn, St.els, St.op, St.x, St.y, St.n, St.inner] at *
        have HCS := Lib.hid hcs
        clear hcs
        by_cases hm : m < q
        · go_wp2
          go_ret
          exact ⟨q, rfl, hq0, by omega, .inr hm, rfl⟩
        · have hq3 : q = St.count (l.take k) := by omega
          have HQ := Lib.hid hq3
          clear hq3 hq2
          go_wp2_with fail
          refine (IH.out t at' ct (m - q) w (by omega) (by omega) (by omega) (by omega) ht r4).mono ?_
          rintro e' w' ⟨r1, rfl, hr1, hr2, hr3, rfl⟩
          have HR1 := Lib.hid hr3
          clear hr3
          by_cases hm2 : m < q + 1 + r1
          · go_wp2_with fail
            go_round
            case rel => exact ⟨k + 1, q + 1 + r1, by omega, by go_num, rfl, by omega, by have := HCS.out; have := HQ.out; omega, .inr hm2⟩
            case measure => simp [intOf]; omega
          · go_wp2_with fail
            refine (IH.out e ae ce (m - (q + 1 + r1)) w (by omega) (by omega) (by omega) (by omega) he r5).mono ?_
            rintro e' w' ⟨r2, rfl, hr4, hr5, hr6, rfl⟩
            have HR2 := Lib.hid hr6
            clear hr6
            go_wp2_with fail
            go_round
            case rel => exact ⟨k + 1, q + 1 + r1 + r2, by omega, by go_num, rfl, by omega, by have := HCS.out; have := HQ.out; omega, by have h1 := HCS.out; have h2 := HQ.out; have h3 := HR1.out; have h4 := HR2.out; omega⟩
            case measure => simp [intOf]; omega
      · have hf : l.take k = l := List.take_of_length_le (by omega)
        rw [hf] at hq1 hq2
        have HQ := Lib.hid hq2
        clear hq2 hf
        go_wp2
        go_ret
        exact ⟨q, rfl, hq0, hq1, HQ.out, rfl⟩

theorem cell?_new2 (w : World) {v0 v1 : Value} (t : TypeId) :
    (w.alloc (.cells #[v0, v1] t)).cell? ⟨w.heap.size, 0, none⟩ = some v0 ∧ (w.alloc (.cells #[v0, v1] t)).cell? ⟨w.heap.size, 1, none⟩ = some v1 := by
  have := heap_alloc_new w (.cells #[v0, v1] t)
  unfold World.cell?
  rw [this]
  exact ⟨rfl, rfl⟩
def validS (p : Pr) : Bool := typesOk p.types && (bodyS p.types p.body 4 && decide (St.count p.body ≤ 30))
set_option maxRecDepth 100000 in
set_option maxHeartbeats 1000000 in
theorem validS_any (p : Pr) (at' ab : Option Addr) (ct cb : Nat) (w : World) (hT : InAt w Any p.types at') (hB : SlAt w Any p.body ab) (hlt : p.types.length ≤ 1048576) (hlb : St.count p.body ≤ 1048576) (hlc : p.body.length ≤ 1048576) :
    Calls Try.prog 67 #[.agg #[.slice at' p.types.length ct, .slice ab p.body.length cb]] w fun e w' => e = .returned (.bool (validS p)) ∧ Gr w w' none := by
  have hg1 : ∀ o, Gr w (w.alloc o) none := fun o => (Gr.refl _ _).alloc _
  cases hty : typesOk p.types with
  | false =>
    have HTY := Lib.hid hty
    clear hty
    go_enter Try.func67, Try.ntmps67
    go_wp2_with (go_at_call 83; refine (l1Types_any p.types _ _ _ (by exact hT.gr0 (hg1 _)) hlt).mono ?_; rw [HTY.out]; rintro e' w' ⟨rfl, rfl⟩)
    go_ret
    exact ⟨ret_bool (by rw [validS, HTY.out]; rfl), hg1 _⟩
  | true =>
    have HTY := Lib.hid hty
    clear hty
    cases hb : bodyS p.types p.body 4 with
    | false =>
      have HB := Lib.hid hb
      clear hb
      go_enter Try.func67, Try.ntmps67
      go_wp2_with (go_at_call 83; refine (l1Types_any p.types _ _ _ (by exact hT.gr0 (hg1 _)) hlt).mono ?_; rw [HTY.out]; rintro e' w' ⟨rfl, rfl⟩)
      refine ((st_all p.types _).2 p.body ab cb at' ct 4 _ (Nat.le_refl _) (by omega) (by omega) (by unfold maxLen; omega) (hT.gr0 (hg1 _)) (hB.gr0 (hg1 _))).mono ?_
      rw [HB.out]
      rintro e' w' ⟨rfl, hg2⟩
      go_wp2_with fail
      go_ret
      exact ⟨ret_bool (by rw [validS, HTY.out, HB.out]; rfl), (hg1 _).trans0 hg2⟩
    | true =>
      have HB := Lib.hid hb
      clear hb
      go_enter Try.func67, Try.ntmps67
      go_wp2_with (go_at_call 83; refine (l1Types_any p.types _ _ _ (by exact hT.gr0 (hg1 _)) hlt).mono ?_; rw [HTY.out]; rintro e' w' ⟨rfl, rfl⟩)
      refine ((st_all p.types _).2 p.body ab cb at' ct 4 _ (Nat.le_refl _) (by omega) (by omega) (by unfold maxLen; omega) (hT.gr0 (hg1 _)) (hB.gr0 (hg1 _))).mono ?_
      rw [HB.out]
      rintro e' w' ⟨rfl, hg2⟩
      have q1 : w'.cell? ⟨w.heap.size, 1, none⟩ = some (.slice ab p.body.length cb) := hg2.cell (p := ⟨w.heap.size, 1, none⟩) (cell?_new2 _ _).2 (by simp)
      go_wp2_with fail
      refine (count_any (St.count p.body) p.body ab cb 30 _ (Nat.le_refl _) hlb (by omega) (by omega) (by unfold maxLen; omega) ((hB.gr0 (hg1 _)).gr0 hg2)).mono ?_
      rintro e' w'' ⟨r, rfl, hr0, hr1, hr2, rfl⟩
      have HR := Lib.hid hr2
      clear hr2
      go_wp2_with fail
      go_ret
      exact ⟨ret_bool (by rw [validS, HTY.out, HB.out]; have := HR.out; simp; omega), (hg1 _).trans0 hg2⟩

/-! ### Both checks say the same -/

theorem tyOf_bounds {l : List Int} (h : l.all okT = true) (v : Int) : 0 ≤ tyOf l v ∧ tyOf l v ≤ 4 := by
  unfold tyOf
  split
  · rename_i hv
    have hk : v.toNat < l.length := by omega
    have := List.all_eq_true.1 h l[v.toNat] (List.getElem_mem hk)
    simp [okT, within] at this
    rw [List.getElem?_eq_getElem hk]
    simp only [Option.getD_some]
    omega
  · omega
theorem simple_same {l : List Int} (h : l.all okT = true) (op X Y N : Int) (nt ne : Nat) :
    simpleOk l op X Y N nt ne = ((nt : Int) == 0 && ((ne : Int) == 0 && simpleS l op X Y N)) := by
  have hx := tyOf_bounds h X
  have hy := tyOf_bounds h Y
  unfold simpleOk simpleS within
  generalize tyOf l X = x at *
  generalize tyOf l Y = y at *
  by_cases h0 : nt = 0
  · by_cases h1 : ne = 0
    · subst h0 h1
      by_cases o1 : op = 1
      · subst o1; simp; grind
      by_cases o2 : op = 2
      · subst o2; simp; grind
      by_cases o3 : op = 3
      · subst o3; simp; grind
      by_cases o4 : op = 4
      · subst o4; simp; grind
      by_cases o5 : op = 5
      · subst o5; simp; grind
      by_cases o6 : op = 6
      · subst o6; simp; grind
      by_cases o7 : op = 7
      · subst o7; simp
      by_cases o8 : op = 8
      · subst o8; simp; grind
      simp [o1, o2, o3, o4, o5, o6, o7, o8]
    · have : (0 : Nat) < ne := by omega
      simp [h1, this]
  · have : (0 : Nat) < nt := by omega
    simp [h0, this]

def lim (b : Bool) (n : Nat) : Option Nat := if b && decide (n ≤ 30) then some n else none
theorem lim_some {b : Bool} {n c : Nat} (h : lim b n = some c) : b = true ∧ n ≤ 30 ∧ c = n := by
  unfold lim at h
  split at h
  · rename_i h1; simp at h1 h; exact ⟨h1.1, h1.2, h.symm⟩
  · simp at h
theorem lim_true {n : Nat} (h : n ≤ 30) : lim true n = some n := by simp [lim, h]
theorem lim_false (n : Nat) : lim false n = none := by simp [lim]
theorem lim_big (b : Bool) {n : Nat} (h : 30 < n) : lim b n = none := by
  unfold lim; rw [if_neg]; simp; intro; omega
theorem lim_bind (a b : Bool) (n k : Nat) (f : Nat → Option Nat) (hf : ∀ c, c ≤ 30 → f c = lim b (c + k)) : (lim a n).bind f = lim (a && b) (n + k) := by
  cases a with
  | false => rw [lim_false, Option.bind_none, Bool.false_and, lim_false]
  | true =>
    by_cases h : n ≤ 30
    · rw [lim_true h, Option.bind_some, hf n h, Bool.true_and]
    · rw [lim_big _ (by omega), Option.bind_none, lim_big _ (by omega)]

mutual
theorem scan_same {types : List Int} (hty : types.all okT = true) : ∀ (s : St) (d : Int) (c : Nat), 0 ≤ d → d ≤ 4 → c ≤ 30 →
    scan types s d c = lim (stS types s (4 - d)) (c + 1 + s.inner)
  | .mk op x y n t e, d, c, hd0, hd, hc => by
    simp only [scan, stS, St.inner]
    by_cases h30 : 30 ≤ c
    · rw [if_pos h30, lim_big _ (by omega)]
    · rw [if_neg h30]
      by_cases hb : op = 9 ∨ op = 10
      · rw [if_pos (show (op == 9 || op == 10) = true from by simpa using hb), if_neg (show ¬ (op != 9 && op != 10) = true from by rcases hb with rfl | rfl <;> simp)]
        rw [show (decide (4 - d < 1)) = (d == 4) from by rw [Bool.eq_iff_iff]; simp; omega]
        by_cases hbad : (d == 4 || (x != 0 || (y != 0 || (n != 0 || (op == 10 && decide (0 < (e.length : Int))))))) = true
        · rw [if_pos hbad, if_pos hbad, lim_false]
        · rw [if_neg hbad, if_neg hbad]
          have hd4 : d < 4 := by
            by_cases h : d = 4
            · rw [h] at hbad; simp at hbad
            · omega
          rw [scanAll_same hty t (d + 1) (c + 1) (by omega) (by omega) (by omega), show 4 - (d + 1) = 4 - d - 1 from by omega]
          rw [lim_bind _ (bodyS types e (4 - d - 1)) (c + 1 + St.count t) (St.count e)]
          · rw [Nat.add_assoc]
          · intro c' hc'
            rw [scanAll_same hty e (d + 1) c' (by omega) (by omega) hc', show 4 - (d + 1) = 4 - d - 1 from by omega]
      · rw [if_neg (show ¬ (op == 9 || op == 10) = true from by simpa using hb), if_pos (show (op != 9 && op != 10) = true from by simpa using hb), simple_same hty]
        by_cases h1 : t = []
        · by_cases h2 : e = []
          · subst h1 h2
            cases hs : simpleS types op x y n with
            | true => simp [St.count]; rw [lim_true (by omega)]
            | false => simp [lim_false]
          · have h3 : ((e.length : Int) == 0) = false := by simpa using h2
            rw [h3]
            simp [lim]
        · have h3 : ((t.length : Int) == 0) = false := by simpa using h1
          rw [h3]
          simp [lim]
theorem scanAll_same {types : List Int} (hty : types.all okT = true) : ∀ (l : List St) (d : Int) (c : Nat), 0 ≤ d → d ≤ 4 → c ≤ 30 →
    scanAll types l d c = lim (bodyS types l (4 - d)) (c + St.count l)
  | [], d, c, _, _, hc => by rw [scanAll, bodyS, St.count, Nat.add_zero, lim_true hc]
  | s :: r, d, c, hd0, hd, hc => by
    simp only [scanAll, bodyS, St.count]
    rw [scan_same hty s d c hd0 hd hc, lim_bind _ (bodyS types r (4 - d)) _ (St.count r)]
    · rw [show c + 1 + s.inner + St.count r = c + (1 + s.inner + St.count r) from by omega]
    · intro c' hc'
      exact scanAll_same hty r d c' hd0 hd hc'
end
theorem valid_same (p : Pr) : validS p = validP p := by
  unfold validS validP
  cases hty : typesOk p.types with
  | false => rfl
  | true =>
    have h : p.types.all okT = true := by simp only [typesOk, Bool.and_eq_true] at hty; exact hty.2
    rw [scanAll_same h p.body 0 0 (by omega) (by omega) (by omega)]
    simp only [Bool.true_and, Nat.zero_add, Int.sub_zero]
    unfold lim
    cases bodyS p.types p.body 4 <;> by_cases hc : St.count p.body ≤ 30 <;> simp [hc]
/-- What a valid program gives. -/
theorem valid_count {p : Pr} (h : validP p = true) : St.count p.body ≤ 30 := by
  rw [← valid_same] at h
  simp [validS] at h
  exact h.2.2
end Go.Proofs.Ytadidppbhpdnkaa
