/- What always has a value from what is given on: walks of l14Given and l14Forward of the reference. -/
/- What always has a value from what is given on: walks of GivesOf and OpenIssues of the reference. -/
import Derived.Test.YtadlnjglpigjmaaEI

import Derived.Deep.LoopGhost

import Derived.Deep.RegionHeld3

import Derived.BigQuiet

namespace Go.Proofs.Ytadlnjglpigjmaa

open Go.RowKit

/-- What l14Given hands back. -/
def GivenR (p : Pr) (l : List Int) (w : World) (e : Ending) (w' : World) : Prop :=
  (if givenIn p l = true then ∃ g, e = .returned (.tuple #[.slice (some ⟨g, 0, none⟩) p.types.length p.types.length, .bool true]) ∧ Row w' g p.types.length (givenG l) else e = .returned (.tuple #[.slice none 0 0, .bool false])) ∧ Gr w w' none
theorem givenG_snoc {l : List Int} {k j : Nat} (hk : k < l.length) (hj : l[k] = (j : Int)) (v : Nat) : givenG (l.take (k + 1)) v = if v = j then true else givenG (l.take k) v := by
  rw [List.take_succ_eq_append_getElem hk, hj]
  unfold givenG
  by_cases e : v = j
  · subst e; simp
  · have : ¬ (v : Int) = (j : Int) := by omega
    simp [e, this]
set_option maxRecDepth 100000 in
set_option maxHeartbeats 2000000 in
theorem l14Given_any (p : Pr) (l : List Int) (at' ab al : Option Addr) (ct nb cb cl : Nat) (w : World) (hp : p.types.length ≤ 6) (hI : InAt w Any l al) (hlen : l.length ≤ 1048576) :
    Calls Try.prog 68 #[.agg #[.slice at' p.types.length ct, .slice ab nb cb], .slice al l.length cl] w (GivenR p l w) := by
  have HI := Lib.hid hI
  have hmk := fun w : World => run_make_row' (P := Try.prog) 54 4 (.bool false) 1 Try.underlying54 Binfo rfl .i64 .i64 p.types.length (by omega) (by omega) w
  have hE := heap1_0 w (.cells #[.slice at' p.types.length ct, .slice ab nb cb] 30)
  have hgA : Gr w (w.alloc (.cells #[.slice at' p.types.length ct, .slice ab nb cb] 30)) none := (Gr.refl _ _).alloc _
  obtain ⟨wA, hwA⟩ : ∃ wA, wA = w.alloc (.cells #[.slice at' p.types.length ct, .slice ab nb cb] 30) := ⟨_, rfl⟩
  go_enter Try.func68, Try.ntmps68
  go_upto_region 1 with fail
  rw [← hwA] at hE hgA ⊢
  have q0 : wA.cell? ⟨w.heap.size, 0, none⟩ = some (.slice at' p.types.length ct) := cell_of_row _ _ _ _ _ _ hE
  have hR0 := Row.new wA p.types.length
  have hgB : Gr wA (wA.alloc (.cells (madeCells #[.bool false] p.types.length) 4)) none := (Gr.refl _ _).alloc _
  have HSZ := Lib.hid (show wA.heap.size = w.heap.size + 1 by rw [hwA]; simp)
  have HQ0 := Lib.hid (hgB.cell q0 (by simp))
  have HGB := Lib.hid (hgA.trans0 hgB)
  have HI2 := Lib.hid (HI.out.gr0 (hgA.trans0 hgB))
  have HR0 := Lib.hid hR0
  clear hwA hE hgA hgB hR0 hI
  go_wp2_with fail
  obtain ⟨wB, hwB⟩ : ∃ wB, wB = wA.alloc (.cells (madeCells #[.bool false] p.types.length) 4) := ⟨_, rfl⟩
  rw [← hwB] at HQ0 HGB HI2 HR0 ⊢
  clear hwB hmk q0
  go_loopw [7] (fun i wr => ∃ k : Nat, k ≤ l.length ∧ i = .int .i64 k ∧ Row wr wA.heap.size p.types.length (givenG (l.take k)) ∧ (∀ x ∈ l.take k, (decide (0 ≤ x) && decide (x < p.types.length)) = true) ∧ Gr wB wr (some wA.heap.size)) (fun i _ => l.length - (intOf i).toNat)
  case atStart => exact ⟨0, Nat.zero_le _, rfl, HR0.out.congr (fun j _ => by simp [givenG]), (fun x hx => by simp at hx), Gr.refl _ _⟩
  case round =>
    obtain ⟨k, hk, rfl, hR, hall, hg⟩ := hrel
    have HR := Lib.hid hR
    have HA := Lib.hid hall
    have HG := Lib.hid hg
    have HGW := Lib.hid (show Gr w wr none from HGB.out.trans hg (fun r e => .inr (by cases e; have := HSZ.out; omega)))
    have q0 : wr.cell? ⟨w.heap.size, 0, none⟩ = some (.slice at' p.types.length ct) := hg.cell HQ0.out (by simp; have := HSZ.out; omega)
    clear hR hall hg
    by_cases hlt : k < l.length
    · obtain ⟨b1, o1, rfl, -, c5⟩ := (HI.out.gr0 HGW.out).at hlt
      obtain ⟨x, hx⟩ : ∃ x, l[k] = x := ⟨_, rfl⟩
      rw [hx] at c5
      have HX := Lib.hid hx
      clear hx
      by_cases h0 : x < 0
      · have hd0 : decide (x < 0) = true := decide_eq_true h0
        have HF := Lib.hid (show givenIn p l = false by
          unfold givenIn
          rw [List.all_eq_false]
          exact ⟨l[k], List.getElem_mem hlt, by rw [HX.out]; simp; omega⟩)
        go_wp2_with fail
        go_quiet (fail)
        all_goals
          go_wp2_with fail
          go_ret2
          refine ⟨?_, HGW.out.drewN _⟩
          rw [HF.out]; rfl
      · have hd0 : decide (x < 0) = false := decide_eq_false h0
        obtain ⟨j, rfl⟩ := Int.eq_ofNat_of_zero_le (show 0 ≤ x by omega)
        by_cases hjl : j < p.types.length
        · have hd1 : decide ((p.types.length : Int) ≤ (j : Int)) = false := decide_eq_false (by omega)
          have cj := HR.out.cell hjl
          have fj := HR.out.free j
          obtain ⟨z, hz⟩ : ∃ z, givenG (l.take k) j = z := ⟨_, rfl⟩
          rw [hz] at cj
          have HN := Lib.hid (show ∀ v, givenG (l.take (k + 1)) v = if v = j then true else givenG (l.take k) v from givenG_snoc hlt HX.out)
          have HA2 := Lib.hid (show ∀ x ∈ l.take (k + 1), (decide (0 ≤ x) && decide (x < p.types.length)) = true from fun x hx => by
            rw [List.take_succ_eq_append_getElem hlt, List.mem_append, List.mem_singleton] at hx
            rcases hx with hx | rfl
            · exact HA.out x hx
            · rw [HX.out]; simp; omega)
          clear hz
          go_wp2_with fail
          go_quiet (fail)
          all_goals
            have cj2 : (wr.drewN nq).cell? ⟨wA.heap.size, j, none⟩ = some (.bool z) := by simpa using cj
            have fj2 : (wr.drewN nq).frozen? ⟨wA.heap.size, j, none⟩ = false := by simpa using fj
            go_wp2_with fail
            go_roundw
            case rel => exact ⟨k + 1, by omega, by go_num, ((HR.out.gr0 ((Gr.refl _ _).drewN _)).set j true).congr (fun v _ => by rw [HN.out v]), HA2.out, (HG.out.drewN _).setOwn rfl _⟩
            case measure => simp [intOf]; omega
        · have hd1 : decide ((p.types.length : Int) ≤ (j : Int)) = true := decide_eq_true (by omega)
          have HF := Lib.hid (show givenIn p l = false by
            unfold givenIn
            rw [List.all_eq_false]
            exact ⟨l[k], List.getElem_mem hlt, by rw [HX.out]; simp; omega⟩)
          go_wp2_with fail
          go_quiet (fail)
          all_goals
            go_wp2_with fail
            go_ret2
            refine ⟨?_, HGW.out.drewN _⟩
            rw [HF.out]; rfl
    · obtain rfl : k = l.length := by omega
      have HT := Lib.hid (show givenIn p l = true by
        unfold givenIn
        rw [List.all_eq_true]
        intro x hx
        exact HA.out x (by rw [List.take_of_length_le (Nat.le_refl _)]; exact hx))
      go_wp2_with fail
      go_ret2
      refine ⟨?_, HGW.out⟩
      rw [if_pos HT.out]
      exact ⟨_, rfl, HR.out.congr (fun v _ => by rw [List.take_of_length_le (Nat.le_refl _)])⟩
/-- What the rows lack, as a table. -/
def tbG (N : Nat) (G : Nat → Nat → Bool) : Nat → Nat → Bool := fun i v => decide (v < N) && !G i v
def clrT (G : Nat → Nat → Bool) (k u : Nat) : Nat → Nat → Bool := fun i v => if i = k ∧ v = u then false else G i v
theorem tbG_clr {N : Nat} {G : Nat → Nat → Bool} {k u : Nat} (hu : u < N) : tbG N (clrT G k u) = mrg (tbG N G) k (fun v => decide (v = u)) := by
  funext i v
  unfold tbG clrT mrg
  by_cases e : i = k
  · subst e
    by_cases e2 : v = u
    · subst e2; simp [hu]
    · simp [e2]
  · simp [e]
/-- The parts that have been added: to the first j of what comes next all, to the next one what is below u. -/
def Q1 (N : List Nat) (j u : Nat) (k v : Nat) : Prop := (∃ j', j' < j ∧ N[j']? = some k) ∨ (v < u ∧ N[j]? = some k)
theorem Q1.step {N : List Nat} {j u x : Nat} (hx : N[j]? = some x) (k v : Nat) (h : Q1 N j (u + 1) k v) : Q1 N j u k v ∨ (k = x ∧ v = u) := by
  rcases h with h | ⟨h1, h2⟩
  · exact .inl (.inl h)
  · by_cases e : v = u
    · rw [hx] at h2; exact .inr ⟨by simpa using h2.symm, e⟩
    · exact .inl (.inr ⟨by omega, h2⟩)
theorem Q1.next {N : List Nat} {j m : Nat} (k v : Nat) (hv : v < m) (h : Q1 N (j + 1) 0 k v) : Q1 N j m k v := by
  rcases h with ⟨j', h1, h2⟩ | ⟨h, _⟩
  · by_cases e : j' = j
    · subst e; exact .inr ⟨hv, h2⟩
    · exact .inl ⟨j', by omega, h2⟩
  · omega
theorem Q1.exit {L : List Pt} {a j : Nat} (hj : (nextOf L a).length ≤ j) (k : Nat) (hk : k ∈ nextOf L a) (v : Nat) : Q1 (nextOf L a) j 0 k v := by
  obtain ⟨j', hj', rfl⟩ := List.getElem_of_mem hk
  exact .inl ⟨j', by omega, List.getElem?_eq_getElem hj'⟩
theorem tbG_row {T : List Int} {L : List Pt} {i : Nat} {G : Nat → Nat → Bool} (v : Nat) : (decide (v < T.length) && !aftR T L i (G i) v) = true ↔ unA T L i (fun v => tbG T.length G i v = true) v := by
  show _ ↔ v < T.length ∧ ((decide (v < T.length) && !G i v) = true ∨ tkL T L i v = true) ∧ stL L i v = false
  unfold aftR
  by_cases hl : v < T.length
  · rw [decide_eq_true hl]
    cases stL L i v <;> cases tkL T L i v <;> cases G i v <;> simp [hl]
  · rw [decide_eq_false hl]
    simp [hl]
theorem tbG_start {p : Pr} {g : Nat → Bool} : FwOk (pts p) (unI p.types.length g) (unA p.types (pts p)) (tbG p.types.length fun i v => decide (0 < i) || g v) := by
  refine ⟨fun i v h => ?_, fun v h => ?_⟩
  · unfold tbG at h
    simp only [Bool.and_eq_true, decide_eq_true_eq, Bool.not_eq_true', Bool.or_eq_false_iff, decide_eq_false_iff_not] at h
    obtain ⟨h1, h2, h3⟩ := h
    obtain rfl : i = 0 := by omega
    exact Least.step (FwS.mono (unA_mono _ _)) (.inl ⟨rfl, h1, h3⟩)
  · unfold tbG
    simp [h.1, h.2]
/-- A list of rows of marks is handed back. -/
def TabledG (p : Pr) (F : Nat → Nat → Bool) (w : World) (e : Ending) (w' : World) : Prop :=
  ∃ (a : Option Addr) (c : Nat) (gs : List Nat), gs.length = (pts p).length ∧ e = .returned (.slice a (pts p).length c) ∧ RowsAt 1 w' Any (gs.map (gRow p.types.length)) a ∧ RowsF w' gs p.types.length F ∧ Gr w w' none
set_option maxRecDepth 100000 in
set_option maxHeartbeats 8000000 in
theorem l14Forward_any (p : Pr) (gf cf : Nat) (g : Nat → Bool) (at' ab : Option Addr) (ct cb : Nat) (w : World) (hT : InAt w Any p.types at') (hB : SlAt w Any p.body ab) (hv : validP p = true) (hgf : RowE w gf p.types.length cf g) :
    Calls Try.prog 69 #[.agg #[.slice at' p.types.length ct, .slice ab p.body.length cb], .slice (some ⟨gf, 0, none⟩) p.types.length cf] w (TabledG p (hasB p g) w) := by
  have hcnt := valid_count hv
  have hlc := count_length p.body
  have hpl : p.types.length ≤ 6 := valid_types hv
  have hml : (pts p).length ≤ 61 := pts_len hv
  have HNX := Lib.hid (pts_next p)
  have HV := Lib.hid hv
  clear hv
  have hg1 : ∀ o, Gr w (w.alloc o) none := fun o => (Gr.refl _ _).alloc _
  have HT0 := Lib.hid hT
  have HGF := Lib.hid hgf
  go_enter Try.func69, Try.ntmps69
  go_wp2_with fail
  refine (l2Points_any p at' ab ct cb _ (hB.gr0 (hg1 _)) (by omega) (by unfold maxLen; omega)).mono ?_
  rintro e w1 ⟨L, am, c, hM, rfl, hown, hg⟩
  have hG1 : Gr w w1 none := (hg1 _).trans0 hg
  have HM := Lib.hid hM
  have HR := Lib.hid hown.read
  rw [← hM] at hml HNX
  have q0 : w1.cell? ⟨w.heap.size, 0, none⟩ = some (.slice at' p.types.length ct) := hg.cell (p := ⟨w.heap.size, 0, none⟩) (cell_of_row _ _ _ _ _ _ (heap1_0 _ _)) (by simp)
  obtain ⟨N, hNN⟩ : ∃ N, p.types.length = N := ⟨_, rfl⟩
  have HNN := Lib.hid hNN
  rw [hNN] at hpl q0 HGF
  clear hM hown hg hB hT hgf
  have hE : (w1.alloc (.cells #[] 54)).heap[w1.heap.size]? = some (.cells #[] 54 (0, 0)) := heap1_0 _ _
  have hmk := fun w : World => run_make_row' (P := Try.prog) 54 4 (.bool false) 1 Try.underlying54 Binfo rfl .i64 .i64 N (by omega) (by omega) w
  go_wp2_with fail
  obtain ⟨wB, hwB⟩ : ∃ wB : World, wB = w1.alloc (.cells #[] 54) := ⟨_, rfl⟩
  have hgB : Gr w1 wB none := by rw [hwB]; exact (Gr.refl _ _).alloc _
  have hszB : w1.heap.size < wB.heap.size := by rw [hwB]; simp
  replace q0 := hgB.cell q0 (by simp)
  have hGB : Gr w wB none := hG1.trans0 hgB
  have HRB := Lib.hid (HR.out.gr hgB)
  have HTB' := Lib.hid (HT0.out.gr0 hGB)
  have HGFB := Lib.hid (HGF.out.gr0 hGB)
  rw [← hwB] at hE ⊢
  have HQB := Lib.hid q0
  clear hwB
  have hL0 : LstR 54 1 wB w1.heap.size wB.heap.size (([] : List Nat).map (gRow N)) (some ⟨w1.heap.size, 0, none⟩) 0 0 := LstR.empty hgB.size (Nat.le_refl _) hE
  have HGB := Lib.hid hGB
  clear hgB hGB hE hG1 HR HT0 HGF
  go_loopw [6, 7] (fun v i wr => ∃ (k cap : Nat) (ao : Option Addr) (gs : List Nat), k ≤ L.length ∧ i = .int .i64 k ∧ v = .slice ao k cap ∧ gs.length = k ∧ gs.Nodup ∧ LstR 54 1 wr w1.heap.size wB.heap.size (gs.map (gRow N)) ao k cap ∧ RowsF wr gs N (fun i v => decide (0 < i) || g v) ∧ (∀ g ∈ gs, wB.heap.size ≤ g) ∧ Gr wB wr none) (fun _ i _ => L.length - (intOf i).toNat)
  case atStart => exact ⟨0, 0, _, [], Nat.zero_le _, rfl, rfl, rfl, List.nodup_nil, hL0, fun v hv => absurd hv (by simp), by simp, Gr.refl _ _⟩
  case round =>
    obtain ⟨k, cap, ao, gs, hk, rfl, rfl, hgl, hnd, hLs, hRF, hgs, hg⟩ := hrel
    rename World => wO
    have HLS := Lib.hid hLs
    have HRF := Lib.hid hRF
    have HND := Lib.hid hnd
    have HGS := Lib.hid hgs
    have HGO := Lib.hid hg
    have HGLN := Lib.hid hgl
    clear hLs hRF hnd hgs hL0
    replace q0 := hg.cell HQB.out (by simp)
    by_cases hlt : k < L.length
    · have hR0 : Row (wO.alloc (.cells (madeCells #[.bool false] N) 4)) wO.heap.size N (fun _ => false) := Row.new wO N
      have hgP : Gr wO (wO.alloc (.cells (madeCells #[.bool false] N) 4)) none := (Gr.refl _ _).alloc _
      go_wp2_with fail
      obtain ⟨wP, hwP⟩ : ∃ wP, wP = wO.alloc (.cells (madeCells #[.bool false] N) 4) := ⟨_, rfl⟩
      rw [← hwP] at hR0 hgP ⊢
      have HR0 := Lib.hid hR0
      have HGP := Lib.hid hgP
      have HSP := Lib.hid (show wP.heap.size = wO.heap.size + 1 by rw [hwP]; simp)
      clear hwP hR0 hgP hg
      go_loopw [9] (fun i wr => ∃ v : Nat, v ≤ N ∧ i = .int .i64 v ∧ Row wr wO.heap.size N (fun j => decide (j < v) && (decide (0 < k) || g j)) ∧ Gr wO wr none) (fun i _ => N - (intOf i).toNat)
      case atStart => exact ⟨0, Nat.zero_le _, rfl, HR0.out.congr (fun j _ => by simp), HGP.out⟩
      case round =>
        obtain ⟨v, hv, rfl, hR, hg⟩ := hrel
        have HR := Lib.hid hR
        have HG := Lib.hid hg
        by_cases hvN : v < N
        · have c0 := hR.cell hvN
          have f0 := hR.free v
          have c1 := (HGFB.out.gr0 (HGO.out.trans0 hg)).cell hvN
          obtain ⟨z, hz⟩ : ∃ z, (decide (v < v) && (decide (0 < k) || g v)) = z := ⟨_, rfl⟩
          rw [hz] at c0
          have HN := Lib.hid (show Row (wr.setCell ⟨wO.heap.size, v, none⟩ (.bool (decide (0 < k) || g v))) wO.heap.size N (fun j => decide (j < v + 1) && (decide (0 < k) || g j)) from (HR.out.set v _).congr fun j _ => by
            by_cases e : j = v
            · subst e; simp
            · have : (j < v + 1) = (j < v) := by apply propext; omega
              simp [e, this])
          obtain ⟨y, hy⟩ : ∃ y, g v = y := ⟨_, rfl⟩
          rw [hy] at c1 HN
          clear hz hR hg hy
          by_cases hk0 : 0 < k
          · have hd : decide (0 < (k : Int)) = true := decide_eq_true (by omega)
            rw [show (decide (0 < k) || y) = true by rw [decide_eq_true hk0]; rfl] at HN
            go_wp2_with fail
            go_roundw
            case rel => exact ⟨v + 1, by omega, by go_num, HN.out, HG.out.setNew (Nat.le_refl _) _⟩
            case measure => simp [intOf]; omega
          · have hd : decide (0 < (k : Int)) = false := decide_eq_false (by omega)
            rw [show (decide (0 < k) || y) = y by rw [decide_eq_false hk0]; rfl] at HN
            go_wp2_with fail
            go_roundw
            case rel => exact ⟨v + 1, by omega, by go_num, HN.out, HG.out.setNew (Nat.le_refl _) _⟩
            case measure => simp [intOf]; omega
        · obtain rfl : v = N := by omega
          clear hR
          go_wp2_with (at_builtin; refine app_row wO _ rfl (.tmp 46) (.tmp 48) rfl w1.heap.size wB.heap.size ao cap k v wO.heap.size gs rfl HLS.out (HG.out.alloc _) wr.heap.size 1 rfl (heap1_0 _ _) (by omega) HGO.out.size ?_; rintro g3 cap' w4 hL4 hg4 hgo)
          go_roundw
          case rel =>
            refine ⟨k + 1, cap', some ⟨g3, 0, none⟩, gs ++ [wO.heap.size], by omega, by go_num, rfl, by simp [HGLN.out], ?_, hL4, HRF.out.grow HLS.out (HG.out.alloc _) ?_ hgo, ?_, hg4 _ ((HGO.out.trans0 HG.out).alloc _) (Nat.le_refl _)⟩
            · rw [List.nodup_append]
              refine ⟨HND.out, by simp, ?_⟩
              intro x hx y hy
              have := HRF.out.lt x hx
              simp at hy
              omega
            · rw [HGLN.out]
              exact (HR.out.gr0 ((Gr.refl _ _).alloc _)).congr (fun j hj => by rw [decide_eq_true hj, Bool.true_and])
            · intro x hx
              rcases List.mem_append.1 hx with hx | hx
              · exact HGS.out x hx
              · simp at hx; subst hx; exact HGO.out.size
          case measure => simp [intOf]; omega
    · obtain rfl : k = L.length := by omega
      have HOFF := Lib.hid (gs_off HRF.out HLS.out)
      have HTB := Lib.hid HLS.out.rows
      have HGC := Lib.hid hg
      clear hg hmk hgl
      have HGL := Lib.hid (show gs.length = L.length from HGLN.out)
      have HOK := Lib.hid (show FwOk L (unI N g) (unA p.types L) (tbG N fun i v => decide (0 < i) || g v) by
        have := tbG_start (p := p) (g := g)
        rw [← HM.out, HNN.out] at this; exact this)
      go_wp2_with fail
      go_loopg [10] (leftG (boxL L.length N) (tbG N fun i v => decide (0 < i) || g v) true) (fun gh s wq => ∃ (c : Bool) (G : Nat → Nat → Bool), gh = leftG (boxL L.length N) (tbG N G) c ∧ s = .bool c ∧ FwA L (unI N g) (unA p.types L) (tbG N G) c ∧ RowsF wq gs N G ∧ RowsAt 1 wq Any (gs.map (gRow N)) ao ∧ Gr wB wq none)
      case atStart => exact ⟨true, _, rfl, rfl, FwA.start HOK.out, HRF.out, HTB.out, HGC.out⟩
      case round =>
        obtain ⟨c, G, rfl, rfl, hA, hF, hTb, hG⟩ := hrel
        have HA := Lib.hid hA
        have HF0 := Lib.hid hF
        have HT2 := Lib.hid hTb
        have HG2 := Lib.hid hG
        clear hA hF hTb hG
        cases c with
        | false =>
          go_wp2_with fail
          go_ret
          unfold TabledG
          rw [HNN.out]
          refine ⟨ao, cap, gs, by rw [HGL.out, HM.out], by rw [← HM.out]; rfl, HT2.out, HF0.out.congr (fun i v _ hv => ?_), HGB.out.trans0 HG2.out⟩
          have h1 := HA.out.2 rfl i v
          unfold hasB
          rw [HNN.out, decide_eq_true hv, Bool.true_and]
          rw [Bool.eq_iff_iff, Bool.not_eq_true', ← Bool.not_eq_true, unB_iff, HNN.out, ← HM.out, ← h1]
          unfold tbG
          rw [decide_eq_true hv]
          cases G i v <;> simp
        | true =>
          go_wp2_with fail
          go_loopw [10, 11] (fun s i wq => ∃ (c : Bool) (G2 : Nat → Nat → Bool) (a : Nat), a ≤ L.length ∧ s = .bool c ∧ i = .int .i64 a ∧ FwR (boxL L.length N) L (unI N g) (unA p.types L) (tbG N G) (tbG N G2) c a ∧ RowsF wq gs N G2 ∧ RowsAt 1 wq Any (gs.map (gRow N)) ao ∧ Gr wB wq none) (fun _ i _ => L.length - (intOf i).toNat)
          case atStart => exact ⟨false, G, 0, Nat.zero_le _, rfl, rfl, FwR.start HA.out.1, HF0.out, HT2.out, HG2.out⟩
          case round =>
            obtain ⟨c, G2, a, ha, rfl, rfl, hR, hF, hTb, hG⟩ := hrel
            rename World => wA
            have HR := Lib.hid hR
            have HF2 := Lib.hid hF
            have HT2 := Lib.hid hTb
            have HG2 := Lib.hid hG
            clear hR hF hTb
            by_cases haL : a < L.length
            · obtain ⟨b, po, rfl, an, cn, e0, e1, e2, e3, e4, hin, -⟩ := HRB.out a haL
              obtain ⟨q, eq⟩ : ∃ q, L[a] = q := ⟨_, rfl⟩
              have hnq : nextOf L a = q.next := by rw [nextOf_get haL, eq]
              rw [eq] at e0 e1 e2 e3 e4 hin
              have d0 := hG.cell e0 (by simp)
              have d1 := hG.cell e1 (by simp)
              have d2 := hG.cell e2 (by simp)
              have d3 := hG.cell e3 (by simp)
              have hpa : ptAt L a = q := (ptAt_get haL).trans eq
              have HPA := Lib.hid hpa
              have HNQ := Lib.hid hnq
              obtain ⟨nn, hnn⟩ : ∃ nn, q.next.length = nn := ⟨_, rfl⟩
              rw [hnn] at e4
              have d4 := hG.cell e4 (by simp)
              have HD4 := Lib.hid e4
              have HNNX := Lib.hid hnn
              have hnn2 : nn ≤ 2 := by have := (HNX.out a haL).1; rw [hnq, hnn] at this; exact this
              have HNL := Lib.hid (show ∀ k ∈ q.next, k < L.length by have := (HNX.out a haL).2; rw [hnq] at this; exact this)
              have q0 := hG.cell HQB.out (by simp)
              have hag : a < gs.length := by rw [HGL.out]; exact haL
              obtain ⟨bt, ot, rfl, t0⟩ := tab_cell HT2.out hag
              have HST := Lib.hid (show -1 ≤ setOf q.op q.x ∧ setOf q.op q.x < p.types.length by
                have haP : a < (pts p).length := by rw [← HM.out]; exact haL
                have hqp : ptAt (pts p) a = q := by rw [← HM.out]; exact hpa
                have := set_in HV.out haP
                rw [← ptAt_get haP, hqp] at this; exact this)
              have HIN := Lib.hid hin
              have HAG := Lib.hid (HF2.out a hag)
              obtain ⟨ga0, hga0⟩ : ∃ ga0, gs[a] = ga0 := ⟨_, rfl⟩
              rw [hga0] at t0 HAG
              clear eq hnq hpa hnn hin e0 e1 e2 e3 e4 hG hga0
              go_upto_region 18 with fail
              go_cut [12] (fun sv wx => ∃ ga ca, sv = .slice (some ⟨ga, 0, none⟩) N ca ∧ RowE wx ga N ca (aftE p.types q.op q.x q.y (G2 a)) ∧ wA.heap.size ≤ ga ∧ Gr wA wx none)
              case first =>
--<RA
                refine wp_region_held_drew (S := fun w' => Gr wA w' none) (by kernel_rfl) ((Gr.refl _ _).drew) (fun hHeld => ?_)
                refine wpAnyH_take (i := 0) (v := ?_) rfl (by kernel_rfl) (by kernel_rfl) (by kernel_rfl) (fun _ _ _ h => h) (Or.inl ⟨by rfl, ?_⟩) hHeld ?_
                rotate_left
                focus (intro wq hq; clear hq; go_simp; try with_reducible rfl)
                simp only [Act.put, List.getElem_toArray, List.getElem_cons_zero, List.setIfInBounds_toArray, List.set_cons_zero, List.set_cons_succ]
                refine wpAnyH_take (i := 1) (v := ?_) rfl (by kernel_rfl) (by kernel_rfl) (by kernel_rfl) (fun _ _ _ h => h) (Or.inl ⟨by rfl, ?_⟩) hHeld ?_
                rotate_left
                focus (intro wq hq; have k0 := hq.cell q0 (by simp); go_simp; try with_reducible rfl)
                simp only [Act.put, List.getElem_toArray, List.getElem_cons_succ, List.getElem_cons_zero, List.setIfInBounds_toArray, List.set_cons_zero, List.set_cons_succ]
                refine wpAnyH_take (i := 2) (v := ?_) rfl (by kernel_rfl) (by kernel_rfl) (by kernel_rfl) (fun _ _ _ h => h) (Or.inl ⟨by rfl, ?_⟩) hHeld ?_
                rotate_left
                focus (intro wq hq; clear hq; go_simp; try with_reducible rfl)
                simp only [Act.put, List.getElem_toArray, List.getElem_cons_succ, List.getElem_cons_zero, List.setIfInBounds_toArray, List.set_cons_zero, List.set_cons_succ]
                refine wpAnyH_take (i := 3) (v := ?_) rfl (by kernel_rfl) (by kernel_rfl) (by kernel_rfl) (fun _ _ _ h => h) (Or.inl ⟨by rfl, ?_⟩) hHeld ?_
                rotate_left
                focus (intro wq hq; clear hq; go_simp; try with_reducible rfl)
                simp only [Act.put, List.getElem_toArray, List.getElem_cons_succ, List.getElem_cons_zero, List.setIfInBounds_toArray, List.set_cons_zero, List.set_cons_succ]
                refine wpAnyH_take (i := 4) (v := ?_) rfl (by kernel_rfl) (by kernel_rfl) (by kernel_rfl) (fun _ _ _ h => h) (Or.inl ⟨by rfl, ?_⟩) hHeld ?_
                rotate_left
                focus (intro wq hq; clear hq; go_simp; try with_reducible rfl)
                simp only [Act.put, List.getElem_toArray, List.getElem_cons_succ, List.getElem_cons_zero, List.setIfInBounds_toArray, List.set_cons_zero, List.set_cons_succ]
                refine wpAnyH_take (i := 5) (v := ?_) rfl (by kernel_rfl) (by kernel_rfl) (by kernel_rfl) (fun _ _ _ h => h) (Or.inl ⟨by rfl, ?_⟩) hHeld ?_
                rotate_left
                focus (intro wq hq; have k0 := hq.cell d0 (by simp); have k1 := hq.cell d1 (by simp); have k2 := hq.cell d2 (by simp); have k3 := hq.cell d3 (by simp); have k4 := hq.cell d4 (by simp); go_simp; try with_reducible rfl)
                simp only [Act.put, List.getElem_toArray, List.getElem_cons_succ, List.getElem_cons_zero, List.setIfInBounds_toArray, List.set_cons_zero, List.set_cons_succ]
                refine wpAnyH_take (i := 6) (v := ?_) rfl (by kernel_rfl) (by kernel_rfl) (by kernel_rfl) (fun _ _ _ h => h) (Or.inl ⟨by rfl, ?_⟩) hHeld ?_
                rotate_left
                focus (intro wq hq; clear hq; go_simp; try with_reducible rfl)
                simp only [Act.put, List.getElem_toArray, List.getElem_cons_succ, List.getElem_cons_zero, List.setIfInBounds_toArray, List.set_cons_zero, List.set_cons_succ]
                refine wpAnyH_take (i := 7) (v := ?_) rfl (by kernel_rfl) (by kernel_rfl) (by kernel_rfl) (fun _ _ _ h => h) (Or.inl ⟨by rfl, ?_⟩) hHeld ?_
                rotate_left
                focus (intro wq hq; clear hq; go_simp; try with_reducible rfl)
                simp only [Act.put, List.getElem_toArray, List.getElem_cons_succ, List.getElem_cons_zero, List.setIfInBounds_toArray, List.set_cons_zero, List.set_cons_succ]
                refine wpAnyH_take (i := 8) (v := ?_) rfl (by kernel_rfl) (by kernel_rfl) (by kernel_rfl) (fun _ _ _ h => h) (Or.inl ⟨by rfl, ?_⟩) hHeld ?_
                rotate_left
                focus (intro wq hq; clear hq; go_simp; try with_reducible rfl)
                simp only [Act.put, List.getElem_toArray, List.getElem_cons_succ, List.getElem_cons_zero, List.setIfInBounds_toArray, List.set_cons_zero, List.set_cons_succ]
                refine wpAnyH_take (i := 9) (v := ?_) rfl (by kernel_rfl) (by kernel_rfl) (by kernel_rfl) (fun _ _ _ h => h) (Or.inl ⟨by rfl, ?_⟩) hHeld ?_
                rotate_left
                focus (intro wq hq; have k0 := hq.cell t0 (by simp); go_simp; try with_reducible rfl)
                simp only [Act.put, List.getElem_toArray, List.getElem_cons_succ, List.getElem_cons_zero, List.setIfInBounds_toArray, List.set_cons_zero, List.set_cons_succ]
                refine wpAnyH_ready (rs := [10]) (by kernel_rfl) (by simp) ?_
                refine AllReadyH.cons rfl (fun K hK => ?_) AllReadyH.nil
                go_simp
                have hA := l3After_any p.types at' ct q.op q.x q.y q.n (.slice an nn cn) ga0 N (G2 a)
                rw [HNN.out] at hA
                refine (hA _ (by have := HTB'.out.gr0 (HG2.out.trans0 hHeld); exact this) hpl (HAG.out.e.gr0 hHeld) (by rw [← HNN.out]; exact HST.out)).mono ?_
                clear hA
                have HZ := Lib.hid hHeld.size
                rintro e w5 ⟨ga, ca, rfl, hRa, hga, hg5⟩
                try dsimp only
                refine hK.out _ _ (hHeld.trans0 hg5) (fun hHeld => ?_)
                clear hK K
                try simp only [Act.put, List.getElem_toArray, List.getElem_cons_succ, List.getElem_cons_zero, List.setIfInBounds_toArray, List.set_cons_zero, List.set_cons_succ]
                refine wpAnyH_take (i := 11) (v := ?_) rfl (by kernel_rfl) (by kernel_rfl) (by kernel_rfl) (fun _ _ _ h => h) (Or.inl ⟨by rfl, ?_⟩) hHeld ?_
                rotate_left
                focus (intro wq hq; clear hq; go_simp; try with_reducible rfl)
                simp only [Act.put, List.getElem_toArray, List.getElem_cons_succ, List.getElem_cons_zero, List.setIfInBounds_toArray, List.set_cons_zero, List.set_cons_succ]
                refine wpAnyH_done (by kernel_rfl) ?_ _
                go_wp2_with fail
                go_meet
                exact ⟨ga, ca, rfl, hRa, Nat.le_trans HZ.out hga, hHeld⟩
--RA>
              case rest =>
              rename World => wx
              obtain ⟨ga, ca, rfl, hRa, hga, hgx⟩ := hcut
              have HRA := Lib.hid (show RowE wx ga N ca (aftR p.types L a (G2 a)) from hRa.congr fun v _ => by unfold aftE aftR stL tkL; rw [HPA.out])
              have HGX := Lib.hid (HG2.out.trans0 hgx)
              have HFX := Lib.hid (HF2.out.gr0 hgx)
              have HTX := Lib.hid (HT2.out.gr0 hgx)
              have HGAO := Lib.hid (show ∀ x ∈ gs, x ≠ ga from fun x hx e => by have := HF2.out.lt x hx; omega)
              have HGLO := Lib.hid (show wB.heap.size ≤ ga by have := HG2.out.size; omega)
              obtain ⟨H, hH⟩ : ∃ H, aftR p.types L a (G2 a) = H := ⟨_, rfl⟩
              have hJ0 := HR.out.enterJ (unA_mono _ _) (R := fun v => decide (v < N) && !H v) (fun v => by
                have := tbG_row (T := p.types) (L := L) (i := a) (G := G2) v
                rw [HNN.out, hH] at this; exact this)
              have HJ0 := Lib.hid (hJ0.mono (Q' := Q1 (nextOf L a) 0 0) (fun k b h _ => by
                rcases h with ⟨j', h1, _⟩ | ⟨h1, _⟩
                · omega
                · omega))
              rw [hH] at HRA
              clear hRa hga hgx hH hJ0 d0 d1 d2 d3 d4 t0 q0
              go_wp2_with fail
              go_loopw [10, 13] (fun s i wq => ∃ (c : Bool) (G3 : Nat → Nat → Bool) (j : Nat), j ≤ nn ∧ s = .bool c ∧ i = .int .i64 j ∧ FwJ (boxL L.length N) L (unI N g) (unA p.types L) (tbG N G) (tbG N G3) c a (fun v => decide (v < N) && !H v) (Q1 (nextOf L a) j 0) ∧ RowsF wq gs N G3 ∧ RowsAt 1 wq Any (gs.map (gRow N)) (some ⟨bt, ot, none⟩) ∧ RowE wq ga N ca H ∧ Gr wB wq none) (fun _ i _ => nn - (intOf i).toNat)
              case atStart => exact ⟨c, G2, 0, Nat.zero_le _, rfl, rfl, HJ0.out, HFX.out, HTX.out, HRA.out, HGX.out⟩
              case round =>
                obtain ⟨c, G3, j, hj, rfl, rfl, hJ, hF, hTb, hRa, hG⟩ := hrel
                have HJ := Lib.hid hJ
                have HF3 := Lib.hid hF
                have HT3 := Lib.hid hTb
                have HRA := Lib.hid hRa
                have HG3 := Lib.hid hG
                have d4 := hG.cell HD4.out (by simp)
                clear hJ hF hTb hRa
                by_cases hjn : j < nn
                · have hjq : j < q.next.length := by rw [HNNX.out]; exact hjn
                  obtain ⟨b6, o6, rfl, -, c6⟩ := (HIN.out.gr0 hG).at (i := j) (by rw [zs_length]; exact hjq)
                  obtain ⟨kk, hkk⟩ : ∃ kk, q.next[j] = kk := ⟨_, rfl⟩
                  have hzk : (zs q.next)[j]'(by rw [zs_length]; exact hjq) = (kk : Int) := by rw [← hkk]; simp [zs]
                  rw [hzk] at c6
                  have HX := Lib.hid (show (nextOf L a)[j]? = some kk by rw [HNQ.out, List.getElem?_eq_getElem hjq, hkk])
                  have HKM := Lib.hid (show kk ∈ nextOf L a by rw [HNQ.out, ← hkk]; exact List.getElem_mem hjq)
                  have hkL : kk < L.length := HNL.out kk (hkk ▸ List.getElem_mem hjq)
                  have hkg : kk < gs.length := by rw [HGL.out]; exact hkL
                  obtain ⟨bt2, ot2, et, t0⟩ := tab_cell HT3.out hkg
                  cases et
                  obtain ⟨gk, hgk⟩ : ∃ gk, gs[kk] = gk := ⟨_, rfl⟩
                  have HGK := Lib.hid hgk
                  rw [hgk] at t0
                  clear hkk hzk hG hgk
                  go_wp2_with fail
                  go_loopw [10, 15] (fun s i wq => ∃ (c : Bool) (G3 : Nat → Nat → Bool) (u : Nat), u ≤ N ∧ s = .bool c ∧ i = .int .i64 u ∧ FwJ (boxL L.length N) L (unI N g) (unA p.types L) (tbG N G) (tbG N G3) c a (fun v => decide (v < N) && !H v) (Q1 (nextOf L a) j u) ∧ RowsF wq gs N G3 ∧ RowsAt 1 wq Any (gs.map (gRow N)) (some ⟨bt, ot, none⟩) ∧ RowE wq ga N ca H ∧ Gr wB wq none) (fun _ i _ => N - (intOf i).toNat)
                  case atStart => exact ⟨c, G3, 0, Nat.zero_le _, rfl, rfl, HJ.out, HF3.out, HT3.out, HRA.out, HG3.out⟩
                  case round =>
                    obtain ⟨c, G3, u, hu, rfl, rfl, hJ, hF, hTb, hRa, hG⟩ := hrel
                    have HJ := Lib.hid hJ
                    have HF3 := Lib.hid hF
                    have HT3 := Lib.hid hTb
                    have HRA := Lib.hid hRa
                    have HG3 := Lib.hid hG
                    clear hJ hF hTb hG c6 t0 d4
                    by_cases huN : u < N
                    · have hrow := HF3.out kk hkg
                      rw [HGK.out] at hrow
                      have c0 := hrow.cell huN
                      have f0 := hrow.free u
                      have c1 := hRa.cell huN
                      obtain ⟨x, hx⟩ : ∃ x, G3 kk u = x := ⟨_, rfl⟩
                      obtain ⟨y, hy⟩ : ∃ y, H u = y := ⟨_, rfl⟩
                      rw [hx] at c0
                      rw [hy] at c1
                      have HX2 := Lib.hid hx
                      have HY2 := Lib.hid hy
                      clear hx hy hrow hRa
                      by_cases hch : x = true ∧ y = false
                      · obtain ⟨rfl, rfl⟩ := hch
                        have HN := Lib.hid (show FwJ (boxL L.length N) L (unI N g) (unA p.types L) (tbG N G) (tbG N (clrT G3 kk u)) true a (fun v => decide (v < N) && !H v) (Q1 (nextOf L a) j (u + 1)) by
                          rw [tbG_clr huN]
                          exact HJ.out.change (unA_mono _ _) haL HKM.out (R' := fun v => decide (v = u)) (fun v hv => by
                            have : v = u := by simpa using hv
                            subst this
                            rw [HY2.out, decide_eq_true huN]; rfl) (b := u) (boxL_mem hkL huN) (by simp) (by unfold tbG; rw [HX2.out]; simp))
                        have HRN := Lib.hid (show RowsF (wr.setCell ⟨gk, u, none⟩ (.bool false)) gs N (clrT G3 kk u) by
                          obtain rfl := HGK.out
                          exact HF3.out.upd HND.out hkg (own_set _ _ _ _) (((HF3.out kk hkg).set u false).congr fun v _ => by unfold clrT; simp) (fun i hi => funext fun v => by unfold clrT; simp [hi]))
                        have HMEM := Lib.hid (show gk ∈ gs by rw [← HGK.out]; exact List.getElem_mem hkg)
                        have HTN := Lib.hid (show RowsAt 1 (wr.setCell ⟨gk, u, none⟩ (.bool false)) Any (gs.map (gRow N)) (some ⟨bt, ot, none⟩) from HT3.out.off (own_set _ _ _ _) (fun b hb e => HOFF.out _ HMEM.out (by rw [hb]; exact e.symm)))
                        have HRAN := Lib.hid (show RowE (wr.setCell ⟨gk, u, none⟩ (.bool false)) ga N ca H from HRA.out.gr (own_set _ _ _ _) (by simpa using HGAO.out _ HMEM.out))
                        have HGN := Lib.hid (show Gr wB (wr.setCell ⟨gk, u, none⟩ (.bool false)) none from HG3.out.setNew (HGS.out _ HMEM.out) _)
                        go_wp2_with fail
                        go_roundw
                        case rel => exact ⟨true, clrT G3 kk u, u + 1, by omega, rfl, by go_num, HN.out, HRN.out, HTN.out, HRAN.out, HGN.out⟩
                        case measure => simp [intOf]; omega
                      · have HN := Lib.hid (show FwJ (boxL L.length N) L (unI N g) (unA p.types L) (tbG N G) (tbG N G3) c a (fun v => decide (v < N) && !H v) (Q1 (nextOf L a) j (u + 1)) from HJ.out.same (fun k v hq hr => by
                          rcases Q1.step HX.out k v hq with h | ⟨rfl, rfl⟩
                          · exact .inl h
                          · refine .inr ?_
                            rw [HY2.out] at hr
                            unfold tbG
                            rw [HX2.out, decide_eq_true huN]
                            cases x with
                            | false => rfl
                            | true =>
                              cases y with
                              | false => exact absurd ⟨rfl, rfl⟩ hch
                              | true => simp at hr))
                        cases x
                        case' true =>
                          obtain rfl : y = true := by
                            cases y with
                            | true => rfl
                            | false => exact absurd ⟨rfl, rfl⟩ hch
                        all_goals
                          clear hch
                          go_wp2_with fail
                          go_roundw
                          case rel => exact ⟨c, G3, u + 1, by omega, rfl, by go_num, HN.out, HF3.out, HT3.out, HRA.out, HG3.out⟩
                          case measure => simp [intOf]; omega
                    · obtain rfl : u = N := by omega
                      clear hRa
                      go_wp2_with fail
                      go_roundw
                      case rel => exact ⟨c, G3, j + 1, by omega, rfl, by go_num, HJ.out.mono (fun k v hq hr => Q1.next k v (by simp at hr; exact hr.1) hq), HF3.out, HT3.out, HRA.out, HG3.out⟩
                      case measure => simp [intOf]; omega
                · obtain rfl : j = nn := by omega
                  go_wp2_with fail
                  go_roundw
                  case rel => exact ⟨c, G3, a + 1, by omega, rfl, by go_num, HJ.out.exit (fun k hk v _ => Q1.exit (by rw [HNQ.out, HNNX.out]; exact Nat.le_refl _) k hk v), HF3.out, HT3.out, HG3.out⟩
                  case measure => simp [intOf]; omega
            · obtain rfl : a = L.length := by omega
              go_wp2_with fail
              go_roundg (leftG (boxL L.length N) (tbG N G2) c)
              case measure => exact HR.out.left
              case rel => exact ⟨c, G2, rfl, rfl, HR.out.done (Nat.le_refl _), HF2.out, HT2.out, hG⟩
end Go.Proofs.Ytadlnjglpigjmaa

namespace Go.Proofs.Ytadlnjglpigjmaa

open Go.RowKit

set_option maxRecDepth 100000 in
set_option maxHeartbeats 4000000 in
theorem specGivesOf_any (p : Pr) (l : List Int) (at' ab al : Option Addr) (ct cb cl : Nat) (w : World) (hT : InAt w Any p.types at') (hB : SlAt w Any p.body ab) (hs : p.types.length ≤ 1048576) (hc : St.count p.body ≤ 1048576) (hI : InAt w Any l al) (hlen : l.length ≤ 1048576) :
    Calls Try.prog 31 #[.agg #[.slice at' p.types.length ct, .slice ab p.body.length cb], .slice al l.length cl] w (HandI (givesOf p l) w) := by
  have hlc := count_length p.body
  have hg1 : ∀ o, Gr w (w.alloc o) none := fun o => (Gr.refl _ _).alloc _
  have HI := Lib.hid hI
  clear hI
  go_enter Try.func31, Try.ntmps31
  go_wp2_with fail
  refine (validS_any p at' ab ct cb _ (hT.gr0 (hg1 _)) (hB.gr0 (hg1 _)) hs hc (by omega)).mono ?_
  rw [valid_same]
  rintro e w1 ⟨rfl, hg⟩
  have hG1 : Gr w w1 none := (hg1 _).trans0 hg
  have q0 : w1.cell? ⟨w.heap.size, 0, none⟩ = some (.slice at' p.types.length ct) := hg.cell (p := ⟨w.heap.size, 0, none⟩) (cell_of_row _ _ _ _ _ _ (heap1_0 _ _)) (by simp)
  have q1 : w1.cell? ⟨w.heap.size, 1, none⟩ = some (.slice ab p.body.length cb) := hg.cell (p := ⟨w.heap.size, 1, none⟩) (cell_of_row _ _ _ _ _ _ (heap1_0 _ _)) (by simp)
  clear hg
  cases hv : validP p with
  | false =>
    have HO := Lib.hid (givesOf_out (p := p) (l := l) (by rw [hv]; simp))
    clear hv
    go_wp2_with fail
    go_ret
    rw [HO.out]
    exact Lst.hand (Lst.empty hG1.size hG1.size (heap1_0 _ _)) rfl (hG1.alloc _)
  | true =>
    have hpl := valid_types hv
    have hml := pts_len hv
    have hpos := pts_pos' p
    have HV := Lib.hid hv
    clear hv
    go_wp2_with fail
    refine (l14Given_any p l at' ab al ct p.body.length cb cl _ hpl (HI.out.gr0 hG1) hlen).mono ?_
    rintro e w2 ⟨hif, hg2⟩
    have hG2 : Gr w w2 none := hG1.trans0 hg2
    replace q0 := hg2.cell q0 (by simp)
    replace q1 := hg2.cell q1 (by simp)
    clear hg2
    cases hgi : givenIn p l with
    | false =>
      rw [hgi, if_neg (by simp)] at hif
      subst hif
      have HO := Lib.hid (givesOf_out (p := p) (l := l) (by rw [hgi]; simp))
      clear hgi
      go_wp2_with fail
      go_ret
      rw [HO.out]
      exact Lst.hand (Lst.empty hG2.size hG2.size (heap1_0 _ _)) rfl (hG2.alloc _)
    | true =>
      rw [hgi, if_pos rfl] at hif
      obtain ⟨gf, rfl, hR⟩ := hif
      have HO := Lib.hid (givesOf_in HV.out hgi)
      have HR := Lib.hid hR
      clear hgi hR
      go_wp2_with fail
      refine (l14Forward_any p gf p.types.length (givenG l) at' ab ct cb _ (hT.gr0 hG2) (hB.gr0 hG2) HV.out HR.out.e).mono ?_
      rintro e w3 ⟨a2, c2, gs, hgl, rfl, hTb, hF, hg3⟩
      obtain ⟨n, hn⟩ : ∃ n, (pts p).length = n := ⟨_, rfl⟩
      rw [hn] at hgl hml hpos
      obtain ⟨m, hm⟩ : ∃ m, n = m + 1 := ⟨n - 1, by omega⟩
      have hmg : m < gs.length := by omega
      obtain ⟨bt, ot, rfl, t0⟩ := tab_cell hTb hmg
      have HRM := Lib.hid (hF m hmg)
      obtain ⟨gk, hgk⟩ : ∃ gk, gs[m] = gk := ⟨_, rfl⟩
      rw [hgk] at t0 HRM
      have hmm : ((n : Int) - 1) = (m : Int) := by omega
      have hmn : m < n := by omega
      have hwm : IntKind.i64.wrap (m : Int) = (m : Int) := wraps_i64 _ (Int.natCast_nonneg _) (by omega)
      have HO2 := Lib.hid (show coll (hasB p (givenG l) m) p.types.length = givesOf p l by rw [HO.out, hn, hm, Nat.add_sub_cancel])
      have hG3 := hG2.trans0 hg3
      rw [hn]
      clear hTb hF hgk hgl hmg hn hm q0 q1
      go_wp2_with fail
      refine (l3Numbers_any gk p.types.length p.types.length (hasB p (givenG l) m) _ HRM.out (by omega)).mono ?_
      rw [HO2.out]
      intro e w4 hh
      have hhh := HandI.aft hh hG3
      obtain ⟨a4, c4, rfl, -⟩ := hh
      have HH := Lib.hid hhh
      clear hhh
      go_wp2_with fail
      go_ret
      exact HH.out
set_option maxRecDepth 100000 in
set_option maxHeartbeats 4000000 in
theorem specOpenIssues_any (p : Pr) (l : List Int) (at' ab al : Option Addr) (ct cb cl : Nat) (w : World) (hT : InAt w Any p.types at') (hB : SlAt w Any p.body ab) (hs : p.types.length ≤ 1048576) (hc : St.count p.body ≤ 1048576) (hI : InAt w Any l al) (hlen : l.length ≤ 1048576) :
    Calls Try.prog 34 #[.agg #[.slice at' p.types.length ct, .slice ab p.body.length cb], .slice al l.length cl] w (HandI (openOf p l) w) := by
  have hlc := count_length p.body
  have hg1 : ∀ o o', Gr w ((w.alloc o).alloc o') none := fun o o' => ((Gr.refl _ _).alloc _).alloc _
  have HI := Lib.hid hI
  have HT := Lib.hid hT
  clear hI
  go_enter Try.func34, Try.ntmps34
  go_wp2_with fail
  refine (validS_any p at' ab ct cb _ (hT.gr0 (hg1 _ _)) (hB.gr0 (hg1 _ _)) hs hc (by omega)).mono ?_
  rw [valid_same]
  rintro e w1 ⟨rfl, hg⟩
  have hG1 : Gr w w1 none := (hg1 _ _).trans0 hg
  have q0 : w1.cell? ⟨w.heap.size, 0, none⟩ = some (.slice at' p.types.length ct) := hg.cell (p := ⟨w.heap.size, 0, none⟩) (cell_of_row _ _ _ _ _ _ (heap2_0 _ _ _)) (by simp)
  have q1 : w1.cell? ⟨w.heap.size, 1, none⟩ = some (.slice ab p.body.length cb) := hg.cell (p := ⟨w.heap.size, 1, none⟩) (cell_of_row _ _ _ _ _ _ (heap2_0 _ _ _)) (by simp)
  have hE : w1.heap[w.heap.size + 1]? = some (.cells #[] 3 (0, 0)) := (hg.block _ (by simp) (by simp)).trans (heap2_1 _ _ _)
  clear hg
  cases hv : validP p with
  | false =>
    have HO := Lib.hid (openOf_out (p := p) (l := l) (by rw [hv]; simp))
    clear hv
    go_wp2_with fail
    go_ret
    rw [HO.out]
    exact Lst.hand (Lst.empty (Nat.le_refl _) (by omega) hE) rfl hG1
  | true =>
    have hpl := valid_types hv
    have hcnt := valid_count hv
    have HV := Lib.hid hv
    clear hv
    go_wp2_with fail
    refine (l14Given_any p l at' ab al ct p.body.length cb cl _ hpl (HI.out.gr0 hG1) hlen).mono ?_
    rintro e w2 ⟨hif, hg2⟩
    have hG2 : Gr w w2 none := hG1.trans0 hg2
    replace q0 := hg2.cell q0 (by simp)
    replace q1 := hg2.cell q1 (by simp)
    replace hE : w2.heap[w.heap.size + 1]? = some (.cells #[] 3 (0, 0)) := by rw [hg2.block _ (lt_of_block hE) (by simp)]; exact hE
    clear hg2
    cases hgi : givenIn p l with
    | false =>
      rw [hgi, if_neg (by simp)] at hif
      subst hif
      have HO := Lib.hid (openOf_out (p := p) (l := l) (by rw [hgi]; simp))
      clear hgi
      go_wp2_with fail
      go_ret
      rw [HO.out]
      exact Lst.hand (Lst.empty (Nat.le_refl _) (by omega) hE) rfl hG2
    | true =>
      rw [hgi, if_pos rfl] at hif
      obtain ⟨gf, rfl, hRg⟩ := hif
      have HO := Lib.hid (openOf_in HV.out hgi)
      have HRG := Lib.hid hRg
      clear hgi hRg
      go_wp2_with fail
      refine (l2Points_any p at' ab ct cb _ (hB.gr0 hG2) (by omega) (by unfold maxLen; omega)).mono ?_
      rintro e w3 ⟨M, am, c, hM, rfl, hown, hg3⟩
      have hG3 : Gr w w3 none := hG2.trans0 hg3
      replace q0 := hg3.cell q0 (by simp)
      replace q1 := hg3.cell q1 (by simp)
      replace hE : w3.heap[w.heap.size + 1]? = some (.cells #[] 3 (0, 0)) := by rw [hg3.block _ (lt_of_block hE) (by simp)]; exact hE
      have HM := Lib.hid hM
      have HR := Lib.hid hown.read
      have hml : M.length ≤ 61 := by rw [hM]; exact pts_len HV.out
      have HRG3 := Lib.hid (HRG.out.gr0 hg3)
      obtain ⟨m, hm⟩ : ∃ m, M.length = m := ⟨_, rfl⟩
      have HMM := Lib.hid hm
      rw [hm] at hml
      have HO2 := Lib.hid (show openOf p l = coll (lackB p (givenG l)) m by rw [HO.out, ← hM, hm])
      clear hM hown hg3 hm
      rw [HMM.out]
      go_wp2_with fail
      refine (l14Forward_any p gf p.types.length (givenG l) at' ab ct cb _ (hT.gr0 hG3) (hB.gr0 hG3) HV.out HRG3.out.e).mono ?_
      rintro e w4 ⟨a2, c2, gs, hgl, rfl, hTb, hF, hg4⟩
      have hG4 : Gr w w4 none := hG3.trans0 hg4
      rw [← HM.out, HMM.out] at hgl ⊢
      have HTB := Lib.hid hTb
      have HF := Lib.hid hF
      have HGL := Lib.hid hgl
      have q0' := hg4.cell q0 (by simp)
      have hE4 : w4.heap[w.heap.size + 1]? = some (.cells #[] 3 (0, 0)) := by rw [hg4.block _ (lt_of_block hE) (by simp)]; exact hE
      have hC0 : Coll w4 w.heap.size w4.heap.size (lackB p (givenG l)) 0 (some ⟨w.heap.size + 1, 0, none⟩) 0 0 := Coll.empty hG4.size _ (by omega) hE4
      have HR4 := Lib.hid (HR.out.gr hg4)
      have HG4 := Lib.hid hG4
      have HQ0 := Lib.hid q0'
      clear hTb hg4 hG4 hE hE4 q0 q1 q0' hF hgl
      go_wp2_with fail
      go_loopw [5, 10] (fun v i wr => ∃ (k n cap : Nat) (ao : Option Addr), k ≤ m ∧ i = .int .i64 k ∧ v = .slice ao n cap ∧ Coll wr w.heap.size w4.heap.size (lackB p (givenG l)) k ao n cap ∧ Gr w4 wr none) (fun _ i _ => m - (intOf i).toNat)
      case atStart => exact ⟨0, 0, 0, _, Nat.zero_le _, rfl, rfl, hC0, Gr.refl _ _⟩
      case round =>
        obtain ⟨k, n, cap, ao, hkl, rfl, rfl, hCo, hgr⟩ := hrel
        have hnk := hCo.le
        have HC := Lib.hid hCo
        have HGR := Lib.hid hgr
        clear hCo hC0
        by_cases hlt : k < m
        · have hkM : k < M.length := by rw [HMM.out]; exact hlt
          obtain ⟨b, po, rfl, an, cn, d0, d1, d2, d3, d4, -, -⟩ := (HR4.out.gr hgr) k hkM
          obtain ⟨q, eq⟩ : ∃ q, M[k] = q := ⟨_, rfl⟩
          rw [eq] at d0 d1 d2 d3 d4
          obtain ⟨nn, hnn⟩ : ∃ nn, q.next.length = nn := ⟨_, rfl⟩
          rw [hnn] at d4
          have hpa : ptAt (pts p) k = q := by rw [← HM.out]; exact (ptAt_get hkM).trans eq
          have hkg : k < gs.length := by rw [HGL.out]; exact hlt
          obtain ⟨bt, ot, rfl, t0⟩ := tab_cell HTB.out hkg
          have HRK0 := Lib.hid (HF.out k hkg)
          obtain ⟨bk, hbk⟩ : ∃ bk, gs[k] = bk := ⟨_, rfl⟩
          rw [hbk] at t0 HRK0
          replace t0 := hgr.cell t0 (by simp)
          have q0 := hgr.cell HQ0.out (by simp)
          have HRK := Lib.hid (HRK0.out.e.gr0 hgr)
          have HUL := Lib.hid (show unsR p.types q.op q.x q.y (hasB p (givenG l) k) = lackB p (givenG l) k from uns_lack hpa (fun v hv => by unfold hasB; rw [decide_eq_true hv, Bool.true_and]))
          obtain ⟨lb, hlb⟩ : ∃ lb, lackB p (givenG l) k = lb := ⟨_, rfl⟩
          have HLB := Lib.hid hlb
          clear eq hnn hpa hlb hgr hbk
          go_upto_region 12 with fail
          go_cut [46] (fun s wx => s = .bool lb ∧ Gr wr wx none)
          case first =>
--<RA
            refine wp_region_held_drew (S := fun w' => Gr wr w' none) (by kernel_rfl) ((Gr.refl _ _).drew) (fun hHeld => ?_)
            refine wpAnyH_take (i := 0) (v := ?_) rfl (by kernel_rfl) (by kernel_rfl) (by kernel_rfl) (fun _ _ _ h => h) (Or.inl ⟨by rfl, ?_⟩) hHeld ?_
            rotate_left
            focus (intro wq hq; clear hq; go_simp; try with_reducible rfl)
            simp only [Act.put, List.getElem_toArray, List.getElem_cons_zero, List.setIfInBounds_toArray, List.set_cons_zero, List.set_cons_succ]
            refine wpAnyH_take (i := 1) (v := ?_) rfl (by kernel_rfl) (by kernel_rfl) (by kernel_rfl) (fun _ _ _ h => h) (Or.inl ⟨by rfl, ?_⟩) hHeld ?_
            rotate_left
            focus (intro wq hq; have k0 := hq.cell q0 (by simp); go_simp; try with_reducible rfl)
            simp only [Act.put, List.getElem_toArray, List.getElem_cons_succ, List.getElem_cons_zero, List.setIfInBounds_toArray, List.set_cons_zero, List.set_cons_succ]
            refine wpAnyH_take (i := 2) (v := ?_) rfl (by kernel_rfl) (by kernel_rfl) (by kernel_rfl) (fun _ _ _ h => h) (Or.inl ⟨by rfl, ?_⟩) hHeld ?_
            rotate_left
            focus (intro wq hq; clear hq; go_simp; try with_reducible rfl)
            simp only [Act.put, List.getElem_toArray, List.getElem_cons_succ, List.getElem_cons_zero, List.setIfInBounds_toArray, List.set_cons_zero, List.set_cons_succ]
            refine wpAnyH_take (i := 3) (v := ?_) rfl (by kernel_rfl) (by kernel_rfl) (by kernel_rfl) (fun _ _ _ h => h) (Or.inl ⟨by rfl, ?_⟩) hHeld ?_
            rotate_left
            focus (intro wq hq; clear hq; go_simp; try with_reducible rfl)
            simp only [Act.put, List.getElem_toArray, List.getElem_cons_succ, List.getElem_cons_zero, List.setIfInBounds_toArray, List.set_cons_zero, List.set_cons_succ]
            refine wpAnyH_take (i := 4) (v := ?_) rfl (by kernel_rfl) (by kernel_rfl) (by kernel_rfl) (fun _ _ _ h => h) (Or.inl ⟨by rfl, ?_⟩) hHeld ?_
            rotate_left
            focus (intro wq hq; clear hq; go_simp; try with_reducible rfl)
            simp only [Act.put, List.getElem_toArray, List.getElem_cons_succ, List.getElem_cons_zero, List.setIfInBounds_toArray, List.set_cons_zero, List.set_cons_succ]
            refine wpAnyH_take (i := 5) (v := ?_) rfl (by kernel_rfl) (by kernel_rfl) (by kernel_rfl) (fun _ _ _ h => h) (Or.inl ⟨by rfl, ?_⟩) hHeld ?_
            rotate_left
            focus (intro wq hq; have k0 := hq.cell d0 (by simp); have k1 := hq.cell d1 (by simp); have k2 := hq.cell d2 (by simp); have k3 := hq.cell d3 (by simp); have k4 := hq.cell d4 (by simp); go_simp; try with_reducible rfl)
            simp only [Act.put, List.getElem_toArray, List.getElem_cons_succ, List.getElem_cons_zero, List.setIfInBounds_toArray, List.set_cons_zero, List.set_cons_succ]
            refine wpAnyH_take (i := 6) (v := ?_) rfl (by kernel_rfl) (by kernel_rfl) (by kernel_rfl) (fun _ _ _ h => h) (Or.inl ⟨by rfl, ?_⟩) hHeld ?_
            rotate_left
            focus (intro wq hq; clear hq; go_simp; try with_reducible rfl)
            simp only [Act.put, List.getElem_toArray, List.getElem_cons_succ, List.getElem_cons_zero, List.setIfInBounds_toArray, List.set_cons_zero, List.set_cons_succ]
            refine wpAnyH_take (i := 7) (v := ?_) rfl (by kernel_rfl) (by kernel_rfl) (by kernel_rfl) (fun _ _ _ h => h) (Or.inl ⟨by rfl, ?_⟩) hHeld ?_
            rotate_left
            focus (intro wq hq; clear hq; go_simp; try with_reducible rfl)
            simp only [Act.put, List.getElem_toArray, List.getElem_cons_succ, List.getElem_cons_zero, List.setIfInBounds_toArray, List.set_cons_zero, List.set_cons_succ]
            refine wpAnyH_take (i := 8) (v := ?_) rfl (by kernel_rfl) (by kernel_rfl) (by kernel_rfl) (fun _ _ _ h => h) (Or.inl ⟨by rfl, ?_⟩) hHeld ?_
            rotate_left
            focus (intro wq hq; clear hq; go_simp; try with_reducible rfl)
            simp only [Act.put, List.getElem_toArray, List.getElem_cons_succ, List.getElem_cons_zero, List.setIfInBounds_toArray, List.set_cons_zero, List.set_cons_succ]
            refine wpAnyH_take (i := 9) (v := ?_) rfl (by kernel_rfl) (by kernel_rfl) (by kernel_rfl) (fun _ _ _ h => h) (Or.inl ⟨by rfl, ?_⟩) hHeld ?_
            rotate_left
            focus (intro wq hq; have k0 := hq.cell t0 (by simp); go_simp; try with_reducible rfl)
            simp only [Act.put, List.getElem_toArray, List.getElem_cons_succ, List.getElem_cons_zero, List.setIfInBounds_toArray, List.set_cons_zero, List.set_cons_succ]
            refine wpAnyH_ready (rs := [10]) (by kernel_rfl) (by simp) ?_
            refine AllReadyH.cons rfl (fun K hK => ?_) AllReadyH.nil
            go_simp
            refine (l3Unset_any p.types at' ct q.op q.x q.y q.n (.slice an nn cn) bk p.types.length (hasB p (givenG l) k) _ (HT.out.gr0 ((HG4.out.trans0 HGR.out).trans0 hHeld)) hpl (HRK.out.gr0 hHeld)).mono ?_
            rw [HUL.out, HLB.out]
            rintro e w5 ⟨rfl, hg5⟩
            try dsimp only
            refine hK.out _ _ (hHeld.trans0 hg5) (fun hHeld => ?_)
            clear hK K
            try simp only [Act.put, List.getElem_toArray, List.getElem_cons_succ, List.getElem_cons_zero, List.setIfInBounds_toArray, List.set_cons_zero, List.set_cons_succ]
            refine wpAnyH_done (by kernel_rfl) ?_ _
            go_wp2_with fail
            go_meet
            exact ⟨rfl, hHeld⟩
--RA>
          case rest =>
            rename World => wx
            obtain ⟨rfl, hgx⟩ := hcut
            have HC2 := Lib.hid (HC.out.gr hgx)
            have HG3 := Lib.hid (HGR.out.trans0 hgx)
            clear hgx d0 d1 d2 d3 d4 t0 q0
            cases lb with
            | true =>
              go_wp2_with (at_builtin; refine app_c wx _ rfl (.tmp 47) (.tmp 49) rfl w.heap.size w4.heap.size ao cap n _ k rfl HC2.out ((Gr.refl _ _).alloc _) HLB.out wx.heap.size 1 rfl (cell_of_row _ _ _ _ _ _ (heap1_0 _ _)) (by omega) HG3.out.size ?_; rintro g cap' w5 hC5 hg5)
              go_roundw
              case rel => exact ⟨k + 1, n + 1, cap', _, by omega, by go_num, rfl, hC5, hg5 _ (HG3.out.alloc _) (Nat.le_refl _)⟩
              case measure => simp [intOf]; omega
            | false =>
              go_wp2_with fail
              go_roundw
              case rel => exact ⟨k + 1, n, cap, ao, by omega, by go_num, rfl, HC2.out.no HLB.out, HG3.out⟩
              case measure => simp [intOf]; omega
        · obtain rfl : k = m := by omega
          go_wp2_with fail
          go_ret
          exact HC.out.hand HO2.out (HG4.out.trans0 hgr)
end Go.Proofs.Ytadlnjglpigjmaa
