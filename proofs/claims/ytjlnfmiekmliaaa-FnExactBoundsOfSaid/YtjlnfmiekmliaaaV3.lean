/- Walks: a whole program's check, in the program. -/
import Derived.Test.YtjlnfmiekmliaaaV2
import Derived.Deep.DeepCutAuto
namespace Go.Proofs.Ytjlnfmiekmliaaa
open Go.RowKit

mutual
/-- How many statements there are behind this one, if it is right. -/
def scan (types : List Int) : St → Int → Nat → Option Nat
  | .mk op x y n t e, d, c =>
    if 30 ≤ c then none
    else if op == 9 || op == 10 then
      if d == 4 || (x != 0 || (y != 0 || (n != 0 || (op == 10 && decide (0 < (e.length : Int)))))) then none
      else (scanAll types t (d + 1) (c + 1)).bind fun c' => scanAll types e (d + 1) c'
    else if simpleOk types op x y n t.length e.length then some (c + 1) else none
def scanAll (types : List Int) : List St → Int → Nat → Option Nat
  | [], _, c => some c
  | s :: r, d, c => (scan types s d c).bind fun c' => scanAll types r d c'
end
theorem scanAll_snoc (types : List Int) (s : St) (d : Int) : ∀ (l : List St) (c : Nat), scanAll types (l ++ [s]) d c = (scanAll types l d c).bind fun c' => scan types s d c'
  | [], c => by simp [scanAll]
  | x :: r, c => by
    simp only [List.cons_append, scanAll, Option.bind_assoc]
    cases scan types x d c with
    | none => rfl
    | some c' => simp [scanAll_snoc types s d r c']
theorem scanAll_append (types : List Int) (d : Int) (m : List St) : ∀ (l : List St) (c : Nat), scanAll types (l ++ m) d c = (scanAll types l d c).bind fun c' => scanAll types m d c'
  | [], c => by simp [scanAll]
  | x :: r, c => by
    simp only [List.cons_append, scanAll, Option.bind_assoc]
    cases scan types x d c with
    | none => rfl
    | some c' => simp [scanAll_append types d m r c']
theorem scanAll_take {types : List Int} {l : List St} {d : Int} {c c' k : Nat} (h : k < l.length) (h1 : scanAll types (l.take k) d c = some c') : scanAll types (l.take (k + 1)) d c = scan types l[k] d c' := by
  rw [List.take_succ_eq_append_getElem h, scanAll_snoc, h1]; rfl
theorem scanAll_none {types : List Int} {l : List St} {d : Int} {c c' k : Nat} (h : k < l.length) (h1 : scanAll types (l.take k) d c = some c') (h2 : scan types l[k] d c' = none) : scanAll types l d c = none := by
  have e : l = l.take (k + 1) ++ l.drop (k + 1) := (List.take_append_drop _ _).symm
  rw [e, scanAll_append, scanAll_take h h1, h2]; rfl

mutual
theorem scan_le {types : List Int} : ∀ {s : St} {d : Int} {c c' : Nat}, scan types s d c = some c' → c' ≤ 30
  | .mk op x y n t e, d, c, c', h => by
    simp only [scan] at h
    split at h
    · simp at h
    · split at h
      · split at h
        · simp at h
        · rw [Option.bind_eq_some_iff] at h
          obtain ⟨c1, h1, h2⟩ := h
          have := scanAll_le h1 (by omega)
          exact scanAll_le h2 this
      · split at h
        · simp at h; omega
        · simp at h
theorem scanAll_le {types : List Int} : ∀ {l : List St} {d : Int} {c c' : Nat}, scanAll types l d c = some c' → c ≤ 30 → c' ≤ 30
  | [], d, c, c', h, hc => by simp [scanAll] at h; omega
  | s :: r, d, c, c', h, hc => by
    simp only [scanAll, Option.bind_eq_some_iff] at h
    obtain ⟨c1, h1, h2⟩ := h
    exact scanAll_le h2 (scan_le h1)
end
theorem count_get {l : List St} {k : Nat} (h : k < l.length) : l[k].inner + 1 ≤ St.count l := by
  induction l generalizing k with
  | nil => simp at h
  | cons x r ih =>
    cases k with
    | zero => simp only [List.getElem_cons_zero, St.count]; omega
    | succ k => have := ih (k := k) (by simpa using h); simp only [List.getElem_cons_succ, St.count]; omega

/-- The counter's block. -/
def Cnt (w : World) (cb : Nat) (c : Nat) : Prop := w.heap[cb]? = some (.cells #[.int .i64 c] 3 (0, 0))
/-- What a scan leaves. -/
def Scanned (r : Option Nat) (cb : Nat) (w : World) (e : Ending) (w' : World) : Prop :=
  ∃ c2 : Nat, e = .returned (.bool r.isSome) ∧ Cnt w' cb c2 ∧ (∀ c', r = some c' → c2 = c') ∧ Gr w w' (some cb)

def ScanC (types : List Int) (n : Nat) : Prop := ∀ (s : St) (at' ae : Option Addr) (ct ce : Nat) (a : Option Addr) (cp cb c : Nat) (d : Int) (w : World), s.inner + 1 ≤ n → 0 ≤ d → d ≤ 4 → c ≤ 30 → types.length ≤ 1048576 →
  InAt w (Off (some cb)) types a → SlAt w (Off (some cb)) s.thn at' → SlAt w (Off (some cb)) s.els ae → s.thn.length ≤ maxLen → s.els.length ≤ maxLen → Cnt w cb c →
  Calls Try.prog 108 #[.slice a types.length cp, .agg #[.int .i64 s.op, .int .i64 s.x, .int .i64 s.y, .int .i64 s.n, .slice at' s.thn.length ct, .slice ae s.els.length ce], .int .i64 d, .pointer (some ⟨cb, 0, none⟩)] w
    (Scanned (scan types s d c) cb w)
def AllC (types : List Int) (n : Nat) : Prop := ∀ (l : List St) (al : Option Addr) (cl : Nat) (a : Option Addr) (cp cb c : Nat) (d : Int) (w : World), St.count l ≤ n → 0 ≤ d → d ≤ 4 → c ≤ 30 → types.length ≤ 1048576 → l.length ≤ maxLen →
  InAt w (Off (some cb)) types a → SlAt w (Off (some cb)) l al → Cnt w cb c →
  Calls Try.prog 100 #[.slice a types.length cp, .slice al l.length cl, .int .i64 d, .pointer (some ⟨cb, 0, none⟩)] w
    (Scanned (scanAll types l d c) cb w)

theorem Cnt.lt {w : World} {cb c : Nat} (h : Cnt w cb c) : cb < w.heap.size := (Array.getElem?_eq_some_iff.1 h).1
theorem Cnt.cell {w : World} {cb c : Nat} (h : Cnt w cb c) : w.cell? ⟨cb, 0, none⟩ = some (.int .i64 c) := cell_of_one h
theorem Cnt.free {w : World} {cb c : Nat} (h : Cnt w cb c) : w.frozen? ⟨cb, 0, none⟩ = false := free_of_one h
theorem Cnt.alloc {w : World} {cb c : Nat} (h : Cnt w cb c) (o : Obj) : Cnt (w.alloc o) cb c := by
  have := Below.heap_alloc w o cb h.lt
  unfold Cnt; rw [this]; exact h
theorem Cnt.set {w : World} {cb c : Nat} (h : Cnt w cb c) (c' : Nat) : Cnt (w.setCell ⟨cb, 0, none⟩ (.int .i64 c')) cb c' := one_setCell h
theorem Cnt.gr {w w' : World} {cb c : Nat} {row : Option Nat} (h : Cnt w cb c) (hg : Gr w w' row) (hr : row ≠ some cb) : Cnt w' cb c := by
  unfold Cnt; rw [hg.block cb h.lt (fun e => hr e.symm)]; exact h

theorem off_ne (cb : Nat) : ∀ b o, Off (some cb) b o → some cb ≠ some b := fun _ _ h => h

set_option maxRecDepth 100000 in
set_option maxHeartbeats 1000000 in
theorem all_step (types : List Int) (n : Nat) (hS : ScanC types n) : AllC types n := by
  intro l al cl a cp cb c d w hn hd0 hd hc hty hl hI hL hC
  have HS := Lib.hid hS
  clear hS
  unfold maxLen at hl
  go_enter Try.func100, Try.ntmps100
  go_wp2
  go_loopw [13] (fun i wr => ∃ k c' : Nat, k ≤ l.length ∧ i = .int .i64 k ∧ c' ≤ 30 ∧ Cnt wr cb c' ∧ scanAll types (l.take k) d c = some c' ∧ Gr w wr (some cb)) (fun i _ => l.length - (intOf i).toNat)
  case atStart => exact ⟨0, c, Nat.zero_le _, rfl, hc, hC, by simp [scanAll], Gr.refl _ _⟩
  case round =>
    obtain ⟨k, c', hk, rfl, hc', hCr, hsc, hgr⟩ := hrel
    have HSC := Lib.hid hsc
    clear hsc
    by_cases hlt : k < l.length
    · have hLr := hL.gr hgr (off_ne cb)
      obtain ⟨b, off, rfl, hs⟩ := hLr.at hlt
      obtain ⟨s, es⟩ : ∃ s, l[k] = s := ⟨_, rfl⟩
      have hin := count_get hlt
      rw [es] at hs hin
      have ES := Lib.hid es
      clear es
      obtain ⟨_, ht, he, at', ct, ae, ce, c0, c1, c2, c3, c4, c5, r4, r5⟩ := hs.out
      cases hr : scan types s d c' with
      | none =>
        have HR := Lib.hid hr
        clear hr
        go_wp2_with fail
        refine (HS.out s at' ae ct ce a cp cb c' d _ (by omega) hd0 hd hc' hty (hI.gr (hgr.alloc _) (off_ne cb)) (r4.gr0 ((Gr.refl _ _).alloc _)) (r5.gr0 ((Gr.refl _ _).alloc _)) ht he (hCr.alloc _)).mono ?_
        rw [HR.out]
        rintro e w' ⟨cn, rfl, hC2, hcc, hg2⟩
        clear c0 c1 c2 c3 c4 c5 hs r4 r5
        go_wp2_with fail
        go_ret
        exact ⟨_, ret_bool (by rw [scanAll_none hlt HSC.out (by rw [ES.out]; exact HR.out)]; rfl), hC2, fun c'' h => by rw [scanAll_none hlt HSC.out (by rw [ES.out]; exact HR.out)] at h; simp at h, (hgr.alloc _).trans hg2 (fun r hr => .inl hr)⟩
      | some c3' =>
        have HR := Lib.hid hr
        clear hr
        go_wp2_with fail
        refine (HS.out s at' ae ct ce a cp cb c' d _ (by omega) hd0 hd hc' hty (hI.gr (hgr.alloc _) (off_ne cb)) (r4.gr0 ((Gr.refl _ _).alloc _)) (r5.gr0 ((Gr.refl _ _).alloc _)) ht he (hCr.alloc _)).mono ?_
        rw [HR.out]
        rintro e w' ⟨cn, rfl, hC2, hcc, hg2⟩
        obtain rfl := hcc c3' rfl
        clear c0 c1 c2 c3 c4 c5 hs r4 r5 hcc
        go_wp2_with fail
        go_roundw
        case rel => exact ⟨k + 1, cn, by omega, by go_num, scan_le HR.out, hC2, by rw [scanAll_take hlt HSC.out, ES.out]; exact HR.out, (hgr.alloc _).trans hg2 (fun r hr => .inl hr)⟩
        case measure => simp [intOf]; omega
    · have hfin := HSC.out
      rw [List.take_of_length_le (by omega)] at hfin
      have HF := Lib.hid hfin
      clear hfin
      go_wp2
      go_ret
      exact ⟨c', ret_bool (by rw [HF.out]; rfl), hCr, fun c'' h => by rw [HF.out] at h; simpa using h, hgr⟩

theorem World.cell?_new5 {w : World} {cb : Nat} {u v0 v1 v2 v3 v4 v5 : Value} {t : TypeId}   :
    ((w.setCell ⟨cb, 0, none⟩ u).alloc (.cells #[v0, v1, v2, v3, v4, v5] t)).cell? ⟨w.heap.size, 5, none⟩ = some v5 := by
  have hsz : (w.setCell ⟨cb, 0, none⟩ u).heap.size = w.heap.size := by simp [World.setCell]
  have := heap_alloc_new (w.setCell ⟨cb, 0, none⟩ u) (.cells #[v0, v1, v2, v3, v4, v5] t)
  rw [hsz] at this
  unfold World.cell?
  rw [this]
  rfl

set_option maxRecDepth 100000 in
set_option maxHeartbeats 1000000 in
theorem scan_step (types : List Int) (n : Nat) (hA : AllC types n) : ScanC types (n + 1) := by
  intro s at' ae ct ce a cp cb c d w hn hd0 hd hc hty hI hT hE hnt hne hC
  obtain ⟨op, x, y, nn, t, e⟩ := s
  simp only [St.thn, St.els, St.op, St.x, St.y, St.n, St.inner] at *
  have HA := Lib.hid hA
  clear hA
  unfold maxLen at hnt hne
  have hc0 : ∀ o, (w.alloc o).cell? ⟨cb, 0, none⟩ = some (.int .i64 c) := fun o => (hC.alloc o).cell
  have hf0 : ∀ o, (w.alloc o).frozen? ⟨cb, 0, none⟩ = false := fun o => (hC.alloc o).free
  have hlt := hC.lt
  have hC1 : Cnt (w.setCell ⟨cb, 0, none⟩ (.int .i64 ((c : Int) + 1))) cb (c + 1) := one_setCell hC
  have hc1 : (w.setCell ⟨cb, 0, none⟩ (.int .i64 ((c : Int) + 1))).cell? ⟨cb, 0, none⟩ = some (.int .i64 ((c : Int) + 1)) := hC1.cell
  have hW1 : ∀ o, Gr w ((w.setCell ⟨cb, 0, none⟩ (.int .i64 ((c : Int) + 1))).alloc o) (some cb) := fun o => ((Gr.refl _ _).setOwn rfl _).alloc _
  by_cases h30 : 30 ≤ c
  · have hs : scan types (.mk op x y nn t e) d c = none := by simp [scan, h30]
    have HS := Lib.hid hs
    clear hs
    go_enter Try.func108, Try.ntmps108
    go_wp2_with fail
    go_ret
    exact ⟨c + 1, ret_bool (by rw [HS.out]; rfl), hC1.alloc _, fun c'' h => by (rw [HS.out] at h; simp at h), ((Gr.refl _ _).setOwn rfl _).alloc _⟩
  · by_cases hb : op = 9 ∨ op = 10
    · have hb1 : (op == 9 || op == 10) = true := by simpa using hb
      have HB := Lib.hid hb1
      clear hb1
      have hs : scan types (.mk op x y nn t e) d c = if d == 4 || (x != 0 || (y != 0 || (nn != 0 || (op == 10 && decide (0 < (e.length : Int)))))) then none
          else (scanAll types t (d + 1) (c + 1)).bind fun c' => scanAll types e (d + 1) c' := by simp only [scan, HB.out, if_neg h30, if_true]
      have HS := Lib.hid hs
      clear hs
      obtain ⟨r1, hr1⟩ : ∃ r, scanAll types t (d + 1) (c + 1) = r := ⟨_, rfl⟩
      have HR1 := Lib.hid hr1
      clear hr1
      go_enter Try.func108, Try.ntmps108
      go_upto_region 8 with (first | (go_at_call 112; refine (isBranch_any _ _).mono ?_; rw [HB.out]; rintro e w' ⟨rfl, rfl⟩))
      all_goals first
        | (go_ret; exact ⟨c + 1, ret_bool (by rw [HS.out, if_pos (by simp [*])]; rfl), hC1.alloc _, fun c'' h => by (rw [HS.out, if_pos (by simp [*])] at h; simp at h), ((Gr.refl _ _).setOwn rfl _).alloc _⟩)
        | skip
      all_goals
        have HN := Lib.hid (HS.out.trans (if_neg (by simp [*])))
        clear HS
        cases r1 with
        | none =>
          go_wp2_with fail
          refine (HA.out t at' ct a cp cb (c + 1) (d + 1) _ (by omega) (by omega) (by omega) (by omega) hty hnt (hI.gr (hW1 _) (off_ne cb)) (hT.gr (hW1 _) (off_ne cb)) (hC1.alloc _)).mono ?_
          rw [HR1.out]
          rintro e' w' ⟨cn, rfl, hC2, hcc, hg2⟩
          go_wp2_with fail
          go_ret
          exact ⟨cn, ret_bool (by rw [HN.out, HR1.out]; rfl), hC2, fun c'' h => by (rw [HN.out, HR1.out] at h; simp at h), (hW1 _).trans hg2 (fun r hr => .inl hr)⟩
        | some c1 =>
          go_wp2_with fail
          refine (HA.out t at' ct a cp cb (c + 1) (d + 1) _ (by omega) (by omega) (by omega) (by omega) hty hnt (hI.gr (hW1 _) (off_ne cb)) (hT.gr (hW1 _) (off_ne cb)) (hC1.alloc _)).mono ?_
          rw [HR1.out]
          rintro e' w' ⟨cn, rfl, hC2, hcc, hg2⟩
          obtain rfl := hcc c1 rfl
          clear hcc
          have q4 : w'.cell? ⟨w.heap.size, 5, none⟩ = some (.slice ae e.length ce) := hg2.cell (p := ⟨w.heap.size, 5, none⟩) World.cell?_new5 (by intro h; injection h with h; simp at h; omega)
          have q5 := scanAll_le HR1.out (by omega)
          cases hr2 : scanAll types e (d + 1) cn with
          | none =>
            have HR2 := Lib.hid hr2
            clear hr2
            go_wp2_with fail
            refine (HA.out e ae ce a cp cb cn (d + 1) _ (by omega) (by omega) (by omega) q5 hty hne ((hI.gr (hW1 _) (off_ne cb)).gr hg2 (off_ne cb)) ((hE.gr (hW1 _) (off_ne cb)).gr hg2 (off_ne cb)) hC2).mono ?_
            rw [HR2.out]
            rintro e' w'' ⟨cn2, rfl, hC3, hcc, hg3⟩
            go_wp2_with fail
            go_ret
            exact ⟨cn2, ret_bool (by rw [HN.out, HR1.out]; simp [HR2.out]), hC3, fun c'' h => by (rw [HN.out, HR1.out] at h; simp [HR2.out] at h), ((hW1 _).trans hg2 (fun r hr => .inl hr)).trans hg3 (fun r hr => .inl hr)⟩
          | some c2' =>
            have HR2 := Lib.hid hr2
            clear hr2
            go_wp2_with fail
            refine (HA.out e ae ce a cp cb cn (d + 1) _ (by omega) (by omega) (by omega) q5 hty hne ((hI.gr (hW1 _) (off_ne cb)).gr hg2 (off_ne cb)) ((hE.gr (hW1 _) (off_ne cb)).gr hg2 (off_ne cb)) hC2).mono ?_
            rw [HR2.out]
            rintro e' w'' ⟨cn2, rfl, hC3, hcc, hg3⟩
            obtain rfl := hcc c2' rfl
            go_wp2_with fail
            go_ret
            exact ⟨cn2, ret_bool (by rw [HN.out, HR1.out]; simp [HR2.out]), hC3, fun c'' h => by (rw [HN.out, HR1.out] at h; simpa [HR2.out] using h), ((hW1 _).trans hg2 (fun r hr => .inl hr)).trans hg3 (fun r hr => .inl hr)⟩
    · have hb1 : (op == 9 || op == 10) = false := by simp; omega
      have hs : scan types (.mk op x y nn t e) d c = if simpleOk types op x y nn t.length e.length then some (c + 1) else none := by simp [scan, h30, hb1]
      have HS := Lib.hid hs
      clear hs
      have HB := Lib.hid hb1
      clear hb1
      go_enter Try.func108, Try.ntmps108
      go_wp2_with (first | (go_at_call 112; refine (isBranch_any _ _).mono ?_; rw [HB.out]; rintro e w' ⟨rfl, rfl⟩) | (go_at_call 113; refine (simpleOk_any types _ _ _ _ _ _ _ _ _ _ _ _ _ (by exact (hI.gr (((Gr.refl _ _).setOwn rfl _).alloc _) (off_ne cb)).any) hty).mono ?_; rintro e w' ⟨rfl, hg⟩))
      go_ret
      exact ⟨c + 1, ret_bool (by rw [HS.out]; split <;> simp_all), (hC1.alloc _).gr hg (by simp), fun c'' h => by (rw [HS.out] at h; split at h <;> simp_all), (((Gr.refl _ _).setOwn rfl _).alloc _).trans0 hg⟩

theorem scan_all (types : List Int) : ∀ n, ScanC types n ∧ AllC types n
  | 0 => ⟨fun s _ _ _ _ _ _ _ _ _ _ h => absurd h (by omega), all_step types 0 (fun s _ _ _ _ _ _ _ _ _ _ h => absurd h (by omega))⟩
  | n + 1 => ⟨scan_step types n (scan_all types n).2, all_step types (n + 1) (scan_step types n (scan_all types n).2)⟩

/-- The program's own check. -/
def validP (p : Pr) : Bool := typesOk p.types && (scanAll p.types p.body 0 0).isSome

set_option maxRecDepth 100000 in
set_option maxHeartbeats 1000000 in
theorem valid_any (p : Pr) (at' ab : Option Addr) (ct cb : Nat) (w : World) (hT : InAt w Any p.types at') (hB : SlAt w Any p.body ab) (hlt : p.types.length ≤ 1048576) (hlb : p.body.length ≤ 1048576) :
    Calls Try.prog 80 #[.agg #[.slice at' p.types.length ct, .slice ab p.body.length cb]] w fun e w' => e = .returned (.bool (validP p)) ∧ Gr w w' none := by
  go_enter Try.func80, Try.ntmps80
  go_wp2_with (go_at_call 99; refine (typesOk_any p.types _ _ _ ?_ (by omega)).mono ?_; (exact hT.gr0 (((Gr.refl _ _).alloc _).alloc _)); rintro e w' ⟨rfl, rfl⟩)
  · have hty : typesOk p.types = true := by assumption
    obtain ⟨r, hr⟩ : ∃ r, scanAll p.types p.body 0 0 = r := ⟨_, rfl⟩
    have HR := Lib.hid hr
    clear hr
    refine ((scan_all p.types _).2 p.body ab cb at' ct _ 0 0 _ (Nat.le_refl _) (by omega) (by omega) (by omega) hlt (by unfold maxLen; omega)
      ((hT.old (by omega)).gr0 (((Gr.refl _ _).alloc _).alloc _)) ((hB.old (by omega)).gr0 (((Gr.refl _ _).alloc _).alloc _)) (heap2_1 _ _ _)).mono ?_
    rw [HR.out]
    rintro e' w' ⟨cn, rfl, hC2, hcc, hg2⟩
    go_wp2_with fail
    go_ret
    exact ⟨ret_bool (by rw [validP, hty, HR.out]; rfl), (((Gr.refl _ _).alloc _).alloc _).trans hg2 (fun r hr => .inr (by injection hr with hr; omega))⟩
  · have hty : typesOk p.types = false := by assumption
    go_ret
    exact ⟨ret_bool (by rw [validP, hty]; rfl), ((Gr.refl _ _).alloc _).alloc _⟩
end Go.Proofs.Ytjlnfmiekmliaaa
