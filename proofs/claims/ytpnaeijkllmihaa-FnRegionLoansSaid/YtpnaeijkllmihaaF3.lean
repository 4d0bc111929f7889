/- Tables of marks. Walks of l9Regions, RegionOf, Outlives of the reference. -/
import Derived.Test.YtpnaeijkllmihaaF2

import Derived.Test.YtpnaeijkllmihaaZ3

namespace Go.Proofs.Ytpnaeijkllmihaa

open Go.RowKit

/-! ### Tables: a list of rows of marks -/

def gRow (m : Nat) (g : Nat) : List Value := [.slice (some ⟨g, 0, none⟩) m m]
/-- The rows gs, of m marks each, with the marks F. -/
def RowsF (w : World) (gs : List Nat) (m : Nat) (F : Nat → Nat → Bool) : Prop := ∀ v (h : v < gs.length), Row w gs[v] m (F v)
theorem RowsF.gr {w w' : World} {gs : List Nat} {m : Nat} {F : Nat → Nat → Bool} {row : Option Nat} (h : RowsF w gs m F) (hg : Gr w w' row) (hr : ∀ g ∈ gs, row ≠ some g) : RowsF w' gs m F :=
  fun v hv => (h v hv).gr hg (hr _ (List.getElem_mem hv))
theorem RowsF.gr0 {w w' : World} {gs : List Nat} {m : Nat} {F : Nat → Nat → Bool} (h : RowsF w gs m F) (hg : Gr w w' none) : RowsF w' gs m F := h.gr hg (by simp)
theorem RowsF.lt {w : World} {gs : List Nat} {m : Nat} {F : Nat → Nat → Bool} (h : RowsF w gs m F) : ∀ g ∈ gs, g < w.heap.size := by
  intro g hg
  obtain ⟨v, hv, rfl⟩ := List.getElem_of_mem hg
  exact (h v hv).lt
theorem RowsF.congr {w : World} {gs : List Nat} {m : Nat} {F G : Nat → Nat → Bool} (h : RowsF w gs m F) (e : ∀ v j, v < gs.length → j < m → F v j = G v j) : RowsF w gs m G :=
  fun v hv => (h v hv).congr fun j hj => e v j hv hj
theorem RowsF.snoc {w : World} {gs : List Nat} {m g : Nat} {F : Nat → Nat → Bool} (h : RowsF w gs m F) (hg : Row w g m (F gs.length)) : RowsF w (gs ++ [g]) m F := by
  intro v hv
  by_cases e : v < gs.length
  · rw [List.getElem_append_left e]; exact h v e
  · obtain rfl : v = gs.length := by simp at hv; omega
    rw [List.getElem_append_right (Nat.le_refl _)]
    simpa using hg
/-- One row is written. -/
theorem RowsF.upd {w w' : World} {gs : List Nat} {m : Nat} {F G : Nat → Nat → Bool} (h : RowsF w gs m F) (hn : gs.Nodup) {v : Nat} (hv : v < gs.length) (hg : Gr w w' (some gs[v])) (hr : Row w' gs[v] m (G v)) (e : ∀ u, u ≠ v → G u = F u) : RowsF w' gs m G := by
  intro u hu
  by_cases he : u = v
  · subst he; exact hr
  · rw [e u he]
    refine (h u hu).gr hg fun hh => ?_
    cases hh' : gs[u] with
    | _ =>
      have h1 : gs[v] = gs[u] := by simpa using hh
      exact he ((List.getElem_inj hn).1 h1).symm
theorem RowsF.off {w : World} {gs : List Nat} {m : Nat} {F : Nat → Nat → Bool} (h : RowsF w gs m F) {b : Nat} {cs : Array Value} {t : TypeId} {x : Nat × Nat} (hb : w.heap[b]? = some (.cells cs t x)) (ht : t ≠ 4) : b ∉ gs := by
  intro hm
  obtain ⟨v, hv, rfl⟩ := List.getElem_of_mem hm
  obtain ⟨cs', h1⟩ := (h v hv).type
  rw [hb] at h1
  simp at h1
  exact ht h1.2.1
theorem LstR.typ {e : TypeId} {s : Nat} {w : World} {b0 base : Nat} {l : List (List Value)} {ao : Option Addr} {n cap : Nat} (h : LstR e s w b0 base l ao n cap) (hl : l ≠ []) {g : Nat} (hg : ob ao = some g) : ∃ cs, w.heap[g]? = some (.cells cs e (0, 0)) := by
  obtain ⟨hn, _, hr, h⟩ := h
  rcases h with ⟨h1, _⟩ | h4
  · exact absurd h1 hl
  · rcases h4.2 with ⟨hv, h0⟩ | ⟨g', cap', cur, hv, hb, hc, _⟩
    · exact absurd (List.eq_nil_of_length_eq_zero (by omega)) hl
    · cases hv
      simp [ob] at hg
      subst hg
      exact ⟨_, hc⟩
theorem RowsAt.off {s : Nat} {w w' : World} {row : Option Nat} {D : Nat → Nat → Prop} {L : List (List Value)} {a : Option Addr} (h : RowsAt s w D L a) (hg : Gr w w' row) (hr : ∀ b, ob a = some b → row ≠ some b) : RowsAt s w' Any L a :=
  (h.block.gr hg fun b _ hb => hr b hb).any

theorem SBinfo : (Try.prog.info? 66).map (fun i => (i.zero, i.size, i.bytes)) = some (some (.slice none 0 0), 1, 24) := by kernel_rfl
theorem app_row (w0 w : World) {ops : Array Oper} {rest : List Oper} {o : Oper} {a : Act} {Q : Exit → Act → World → Prop} (hgd : o.guard = none) (x y : Operand)
    (ho : o.op = .call { callee := .builtin .append, args := #[x, y], argTypes := #[64, 64] })
    (b0 base : Nat) (ao : Option Addr) (cap n m gr : Nat) (gs : List Nat) (hs : a.eval x = .slice ao n cap) (hown : LstR 66 1 w0 b0 base (gs.map (gRow m)) ao n cap) (h0 : Gr w0 w none)
    (bx cx : Nat) (hx : a.eval y = .slice (some ⟨bx, 0, none⟩) 1 cx) (hc : w.heap[bx]? = some (.cells #[.slice (some ⟨gr, 0, none⟩) m m] 66 (0, 0))) (hlen : n ≤ 1000000) (hbase : base ≤ w0.heap.size)
    (h : ∀ (g cap' : Nat) (w' : World), LstR 66 1 w' b0 base ((gs ++ [gr]).map (gRow m)) (some ⟨g, 0, none⟩) (n + 1) cap' → (∀ a : World, Gr a w none → a.heap.size ≤ base → Gr a w' none) → Gr w w' (ob ao) →
      wpList Try.prog ops Q rest (a.put o.dst (.slice (some ⟨g, 0, none⟩) (n + 1) cap')) w') : wpList Try.prog ops Q (o :: rest) a w := by
  refine app_r w0 w hgd x y 64 ho 66 1 24 (.slice none 0 0) Try.underlying64 SBinfo rfl (by decide) (by decide) b0 base ao cap n _ (gRow m gr) hs hown h0 bx cx hx _ hc rfl rfl (by intro u hu; simp [gRow] at hu; subst hu; rfl) (by omega) hbase ?_
  intro g cap' w' h1 h2 h3
  refine h g cap' w' ?_ h2 h3
  rw [List.map_append]
  exact h1
theorem RowsF.grow {w w1 w4 : World} {b0 base cap n m : Nat} {ao : Option Addr} {gs : List Nat} {F : Nat → Nat → Bool} (h : RowsF w gs m F) (hL : LstR 66 1 w b0 base (gs.map (gRow m)) ao n cap) (hw : Gr w w1 none) (hr : Row w1 w.heap.size m (F gs.length)) (hg : Gr w1 w4 (ob ao)) : RowsF w4 (gs ++ [w.heap.size]) m F := by
  refine RowsF.snoc ((h.gr0 hw).gr hg ?_) (hr.gr hg ?_)
  · intro g hgm e
    have hne : gs.map (gRow m) ≠ [] := by
      intro h0
      have := List.map_eq_nil_iff.1 h0
      subst this
      simp at hgm
    obtain ⟨cs, hc⟩ := hL.typ hne e
    exact h.off hc (by decide) hgm
  · intro e
    have := hL.lt _ e
    omega
theorem gs_off {w : World} {b0 base cap n m : Nat} {ao : Option Addr} {gs : List Nat} {F : Nat → Nat → Bool} (h : RowsF w gs m F) (hL : LstR 66 1 w b0 base (gs.map (gRow m)) ao n cap) : ∀ g ∈ gs, ob ao ≠ some g := by
  intro g hgm e
  have hne : gs.map (gRow m) ≠ [] := by
    intro h0
    have := List.map_eq_nil_iff.1 h0
    subst this
    simp at hgm
  obtain ⟨cs, hc⟩ := hL.typ hne e
  exact h.off hc (by decide) hgm
theorem tab_cell {w : World} {gs : List Nat} {m : Nat} {a : Option Addr} (h : RowsAt 1 w Any (gs.map (gRow m)) a) {v : Nat} (hv : v < gs.length) : ∃ b off, a = some ⟨b, off, none⟩ ∧ w.cell? ⟨b, off + v, none⟩ = some (.slice (some ⟨gs[v], 0, none⟩) m m) := by
  obtain ⟨b, off, e, -, hc⟩ := h v (by simpa using hv)
  refine ⟨b, off, e, ?_⟩
  have := hc 0 (.slice (some ⟨gs[v], 0, none⟩) m m) (by simp [gRow])
  simpa using this
/-! ### The rounds -/

theorem passS_snoc {k : Nat} (B : List Bd) (b : Bd) (S : Nat → Bool) : passS k (B ++ [b]) S = updS k (passS k B S) b := by
  unfold passS; rw [List.foldl_append]; rfl
theorem passS_take {k i : Nat} {B : List Bd} (h : i < B.length) (S : Nat → Bool) : passS k (B.take (i + 1)) S = updS k (passS k (B.take i) S) B[i] := by
  rw [List.take_succ_eq_append_getElem h, passS_snoc]
/-- The marks after r rounds and i bounds. -/
def midF (B : List Bd) (r i : Nat) (v k : Nat) : Bool := passS k (B.take i) (iterS k B (fun _ => false) r) v
theorem midF_zero (B : List Bd) (v k : Nat) : midF B 0 0 v k = false := rfl
theorem midF_next (B : List Bd) (r i : Nat) (hi : B.length ≤ i) (v k : Nat) : midF B r i v k = midF B (r + 1) 0 v k := by
  unfold midF; rw [List.take_of_length_le hi]; rfl
theorem midF_loan {B : List Bd} {r i v kk : Nat} (h : i < B.length) (e : B[i] = .loan v kk) (u k : Nat) : midF B r (i + 1) u k = if u = v ∧ k = kk then true else midF B r i u k := by
  unfold midF; rw [passS_take h, e]
  simp only [updS]
  by_cases h1 : u = v ∧ k = kk
  · rw [if_pos h1]; simp [h1]
  · rw [if_neg h1]
    have : (decide (u = v) && decide (kk = k)) = false := by
      simp only [Bool.and_eq_false_iff, decide_eq_false_iff_not]
      by_cases h2 : u = v
      · exact .inr fun h3 => h1 ⟨h2, h3.symm⟩
      · exact .inl h2
    rw [this, Bool.or_false]
theorem midF_frm {B : List Bd} {r i v u : Nat} (h : i < B.length) (e : B[i] = .frm v u) (x k : Nat) : midF B r (i + 1) x k = if x = v then (midF B r i v k || midF B r i u k) else midF B r i x k := by
  unfold midF; rw [passS_take h, e]
  simp only [updS]
  by_cases h1 : x = v
  · subst h1; simp
  · simp [h1]
theorem midF_done (p : Pr) (v k : Nat) : midF (bds p) (p.types.length + 1) 0 v k = regB p v k := by
  unfold midF; exact regB_iter

theorem mid_step {B : List Bd} {wB wr w1 w4 : World} {gs : List Nat} {m r i v : Nat} {ao : Option Addr} {R : Nat → Bool} (hF : RowsF wr gs m (midF B r i)) (hw : Gr wr w1 none) (hn : gs.Nodup) (hv : v < gs.length) (hg : Gr w1 w4 (some gs[v])) (hR : Row w4 gs[v] m R)
    (hRe : ∀ j, R j = midF B r (i + 1) v j) (ho : ∀ u, u ≠ v → ∀ j, midF B r (i + 1) u j = midF B r i u j) (hT : RowsAt 1 wr Any (gs.map (gRow m)) ao) (hoff : ∀ g ∈ gs, ob ao ≠ some g) (hgs : ∀ g ∈ gs, wB.heap.size ≤ g) (hG : Gr wB wr none) :
    RowsF w4 gs m (midF B r (i + 1)) ∧ RowsAt 1 w4 Any (gs.map (gRow m)) ao ∧ Gr wB w4 none :=
  ⟨(hF.gr0 hw).upd hn hv hg (hR.congr fun j _ => hRe j) (fun u hu => funext (ho u hu)), (hT.gr0 hw).off hg (fun b hb e => hoff _ (List.getElem_mem hv) (by rw [hb]; exact e.symm)), (hG.trans0 hw).trans hg (fun x e => .inr (by cases e; exact hgs _ (List.getElem_mem hv)))⟩
theorem Row.drew {w : World} {g n : Nat} {F : Nat → Bool} (h : Row w g n F) : Row w.drew g n F := h.gr0 (Gr.refl w none).drew
/-- A table of regions is handed back. -/
def Tabled (p : Pr) (w : World) (e : Ending) (w' : World) : Prop :=
  ∃ (a : Option Addr) (c : Nat) (gs : List Nat), gs.length = p.types.length ∧ e = .returned (.slice a p.types.length c) ∧ RowsAt 1 w' Any (gs.map (gRow (ptsOf p).length)) a ∧ RowsF w' gs (ptsOf p).length (regB p) ∧ Gr w w' none
set_option maxRecDepth 100000 in
set_option maxHeartbeats 4000000 in
theorem l9Regions_any (p : Pr) (at' ab : Option Addr) (ct cb : Nat) (w : World) (hT : InAt w Any p.types at') (hB : SlAt w Any p.body ab) (hv : validP p = true) (hlb : p.body.length ≤ 1048576) :
    Calls Try.prog 61 #[.agg #[.slice at' p.types.length ct, .slice ab p.body.length cb]] w (Tabled p w) := by
  have hcnt := valid_count hv
  have hpl : p.types.length ≤ 6 := valid_types hv
  have hml : (ptsOf p).length ≤ 61 := ptsOf_le p
  have hm0 : 0 < (ptsOf p).length := pts_pos hv
  have HPP := Lib.hid (show ptsOf p = pts p by unfold ptsOf; rw [if_pos hv])
  have HOK := Lib.hid (bds_ok p)
  have HBO := Lib.hid (show boundsOf p = bounds p by unfold boundsOf; rw [if_pos hv])
  have HBR := Lib.hid (bds_row p)
  have HV := Lib.hid hv
  clear hv
  have hg1 : ∀ o, Gr w (w.alloc o) none := fun o => (Gr.refl _ _).alloc _
  go_enter Try.func61, Try.ntmps61
  go_wp2_with fail
  refine (l2Points_any p at' ab ct cb _ (hB.gr0 (hg1 _)) (by omega) (by unfold maxLen; omega)).mono ?_
  rintro e w1 ⟨L, am, c, hM, rfl, hown, hg⟩
  have hG1 : Gr w w1 none := (hg1 _).trans0 hg
  have HM := Lib.hid (show (ptsOf p).length = L.length by rw [HPP.out, hM])
  rw [HM.out] at hml hm0
  have q0 : w1.cell? ⟨w.heap.size, 0, none⟩ = some (.slice at' p.types.length ct) := hg.cell (p := ⟨w.heap.size, 0, none⟩) (cell_of_row _ _ _ _ _ _ (heap1_0 _ _)) (by simp)
  have q1 : w1.cell? ⟨w.heap.size, 1, none⟩ = some (.slice ab p.body.length cb) := hg.cell (p := ⟨w.heap.size, 1, none⟩) (cell_of_row _ _ _ _ _ _ (heap1_0 _ _)) (by simp)
  clear hM hown hg
  go_wp2_with fail
  refine (l9Bounds_any p at' ab ct cb _ (hT.gr0 hG1) (hB.gr0 hG1) HV.out hlb).mono ?_
  rw [← HBO.out]
  rintro e w2 ⟨a2, c2, rfl, hI, hnb, -, hg2⟩
  have hG2 := hG1.trans0 hg2
  have hlen : (boundsOf p).length ≤ 1048576 := boundsOf_len p
  have HBR2 := Lib.hid HBR.out
  obtain ⟨L2, hL2⟩ : ∃ L2, boundsOf p = L2 := ⟨_, rfl⟩
  rw [hL2] at hI hlen ⊢ HBR2
  replace q0 := hg2.cell q0 (by simp)
  have HI := Lib.hid hI
  have HNB := Lib.hid hnb
  clear hL2 hI hnb hg2 hG1 q1
  have hE : (w2.alloc (.cells #[] 66)).heap[w2.heap.size]? = some (.cells #[] 66 (0, 0)) := heap1_0 _ _
  have q0' : ∀ o, (w2.alloc o).cell? ⟨w.heap.size, 0, none⟩ = some (.slice at' p.types.length ct) := fun o => ((Gr.refl w2 none).alloc o).cell q0 (by simp)
  have hmk := fun w : World => run_make_row' (P := Try.prog) 66 4 (.bool false) 1 Try.underlying66 Binfo rfl .i64 .i64 L.length (by omega) (by omega) w
  go_wp2_with fail
  obtain ⟨wB, hwB⟩ : ∃ wB : World, wB = w2.alloc (.cells #[] 66) := ⟨_, rfl⟩
  have hgB : Gr w2 wB none := by rw [hwB]; exact (Gr.refl _ _).alloc _
  have hszB : w2.heap.size < wB.heap.size := by rw [hwB]; simp
  replace q0 := hgB.cell q0 (by simp)
  rw [← hwB] at hE ⊢
  have HQB := Lib.hid q0
  clear hwB q0'
  have hL0 : LstR 66 1 wB w2.heap.size wB.heap.size (([] : List Nat).map (gRow L.length)) (some ⟨w2.heap.size, 0, none⟩) 0 0 := LstR.empty hgB.size (Nat.le_refl _) hE
  go_loopw [5, 6] (fun v i wr => ∃ (k cap : Nat) (ao : Option Addr) (gs : List Nat), k ≤ p.types.length ∧ i = .int .i64 k ∧ v = .slice ao k cap ∧ gs.length = k ∧ gs.Nodup ∧ LstR 66 1 wr w2.heap.size wB.heap.size (gs.map (gRow L.length)) ao k cap ∧ RowsF wr gs L.length (midF (bds p) 0 0) ∧ (∀ g ∈ gs, wB.heap.size ≤ g) ∧ Gr wB wr none) (fun _ i _ => p.types.length - (intOf i).toNat)
  case atStart => exact ⟨0, 0, _, [], Nat.zero_le _, rfl, rfl, rfl, List.nodup_nil, hL0, fun v hv => absurd hv (by simp), by simp, Gr.refl _ _⟩
  case round =>
    obtain ⟨k, cap, ao, gs, hk, rfl, rfl, hgl, hnd, hLs, hRF, hgs, hg⟩ := hrel
    have HLS := Lib.hid hLs
    have HRF := Lib.hid hRF
    have HND := Lib.hid hnd
    have HGS := Lib.hid hgs
    clear hLs hRF hnd hgs
    replace q0 := hg.cell q0 (by simp)
    by_cases hlt : k < p.types.length
    · have hR0 : Row (wr.alloc (.cells (madeCells #[.bool false] L.length) 4)) wr.heap.size L.length (fun _ => false) := Row.new wr L.length
      have HR0 := Lib.hid hR0
      clear hR0
      go_wp2_with (at_builtin; refine app_row wr _ rfl (.tmp 23) (.tmp 26) rfl w2.heap.size wB.heap.size ao cap k L.length wr.heap.size gs rfl HLS.out (((Gr.refl _ _).alloc _).alloc _) (wr.heap.size + 1) 1 rfl (heap2_1 _ _ _) (by omega) hg.size ?_; rintro g cap' w4 hL4 hg4 hgo)
      go_roundw
      case rel =>
        refine ⟨k + 1, cap', some ⟨g, 0, none⟩, gs ++ [wr.heap.size], by omega, by go_num, rfl, by simp [hgl], ?_, hL4, HRF.out.grow HLS.out (((Gr.refl _ _).alloc _).alloc _) ?_ hgo, ?_, hg4 _ ((hg.alloc _).alloc _) (Nat.le_refl _)⟩
        · rw [List.nodup_append]
          refine ⟨HND.out, by simp, ?_⟩
          intro x hx y hy
          have := HRF.out.lt x hx
          simp at hy
          omega
        · exact (HR0.out.gr0 ((Gr.refl _ _).alloc _)).congr fun j _ => (midF_zero _ _ _).symm
        · intro x hx
          rcases List.mem_append.1 hx with hx | hx
          · exact HGS.out x hx
          · simp at hx; subst hx; exact hg.size
      case measure => simp [intOf]; omega
    · obtain rfl : k = p.types.length := by omega
      have HOFF := Lib.hid (gs_off HRF.out HLS.out)
      have HTB := Lib.hid HLS.out.rows
      have HGC := Lib.hid hg
      clear hg
      go_wp2_with fail
      go_loopw [7] (fun s wq => ∃ r : Nat, r ≤ p.types.length + 1 ∧ s = .int .i64 r ∧ RowsF wq gs L.length (midF (bds p) r 0) ∧ RowsAt 1 wq Any (gs.map (gRow L.length)) ao ∧ Gr wB wq none) (fun s _ => p.types.length + 1 - (intOf s).toNat)
      case atStart => exact ⟨0, by omega, rfl, HRF.out, HTB.out, HGC.out⟩
      case round =>
        obtain ⟨r, hr, rfl, hF, hTB, hG⟩ := hrel
        replace q0 := hG.cell HQB.out (by simp)
        by_cases hle : r ≤ p.types.length
        · have HF0 := Lib.hid hF
          have HT0 := Lib.hid hTB
          have HG0 := Lib.hid hG
          clear hF hTB hG
          go_wp2_with fail
          go_loopw [8] (fun s wq => ∃ i : Nat, i ≤ L2.length ∧ s = .int .i64 i ∧ RowsF wq gs L.length (midF (bds p) r i) ∧ RowsAt 1 wq Any (gs.map (gRow L.length)) ao ∧ Gr wB wq none) (fun s _ => L2.length - (intOf s).toNat)
          case atStart => exact ⟨0, by omega, rfl, HF0.out, HT0.out, HG0.out⟩
          case round =>
            obtain ⟨i, hi, rfl, hF, hTB, hG⟩ := hrel
            replace q0 := hG.cell HQB.out (by simp)
            by_cases hlt2 : i < L2.length
            · have hkb : i < (bds p).length := by have := congrArg List.length HBR2.out; rw [List.length_map] at this; omega
              have hrow : L2[i] = (bds p)[i].row := by simp [HBR2.out]
              have hok := HOK.out _ (List.getElem_mem hkb)
              obtain ⟨b1, o1, rfl, -, h1⟩ := (HI.out.gr0 (hgB.trans0 hG)) i hlt2
              rw [hrow] at h1
              have HF := Lib.hid hF
              have HT2 := Lib.hid hTB
              have HG2 := Lib.hid hG
              have hgA : ∀ o, Gr wr (wr.alloc o) none := fun o => (Gr.refl _ _).alloc o
              cases hbe : (bds p)[i] with
              | loan v kk =>
                rw [hbe] at hok h1
                have i0 := h1 0 _ rfl
                have i1 := h1 1 _ rfl
                have i2 := h1 2 _ rfl
                simp only [Nat.add_zero] at i0
                have hv : v < gs.length := by rw [hgl]; exact hok.1
                have hkk : kk < L.length := by rw [← HM.out]; exact hok.2
                obtain ⟨bt, ot, rfl, ct0⟩ := tab_cell hTB hv
                have ctA : ∀ o, (wr.alloc o).cell? ⟨bt, ot + v, none⟩ = some (.slice (some ⟨gs[v], 0, none⟩) L.length L.length) := fun o => (hgA o).cell ct0 (by simp)
                have crA : ∀ o, (wr.alloc o).cell? ⟨gs[v], kk, none⟩ = some (.bool (midF (bds p) r i v kk)) := fun o => (((hF v hv).gr0 (hgA o))).cell hkk
                have cfA : ∀ o, (wr.alloc o).frozen? ⟨gs[v], kk, none⟩ = false := fun o => (((hF v hv).gr0 (hgA o))).free kk
                obtain ⟨gv, hgv⟩ : ∃ gv, gs[v] = gv := ⟨_, rfl⟩
                rw [hgv] at ctA crA cfA
                have HBE := Lib.hid hbe
                have HGV := Lib.hid hgv
                have hv2 : v < p.types.length := hok.1
                clear hok h1 hrow hF hTB hG hbe hgv ct0
                go_wp2_with fail
                go_region
                all_goals
                  go_wp2_with fail
                  go_roundw
                  case rel =>
                    obtain rfl := HGV.out
                    exact ⟨i + 1, by omega, by go_num, mid_step HF.out (hgA _) HND.out hv (own_set _ _ _ _).drew ((((HF.out v hv).gr0 (hgA _)).set kk true).drew) (fun j => by rw [midF_loan hkb HBE.out]; by_cases e : j = kk <;> simp [e]) (fun x hx j => by rw [midF_loan hkb HBE.out, if_neg (fun h => hx h.1)]) HT2.out HOFF.out HGS.out HG2.out⟩
                  case measure => simp [intOf]; omega
              | frm v u =>
                rw [hbe] at hok h1
                have i0 := h1 0 _ rfl
                have i1 := h1 1 _ rfl
                have i2 := h1 2 _ rfl
                simp only [Nat.add_zero] at i0
                have hv : v < gs.length := by rw [hgl]; exact hok.1
                have hu : u < gs.length := by rw [hgl]; exact hok.2
                obtain ⟨bt, ot, rfl, ct0⟩ := tab_cell hTB hv
                obtain ⟨bt', ot', ea, cu0⟩ := tab_cell hTB hu
                cases ea
                have ctA : ∀ o, (wr.alloc o).cell? ⟨bt, ot + v, none⟩ = some (.slice (some ⟨gs[v], 0, none⟩) L.length L.length) := fun o => (hgA o).cell ct0 (by simp)
                have cuA : ∀ o, (wr.alloc o).cell? ⟨bt, ot + u, none⟩ = some (.slice (some ⟨gs[u], 0, none⟩) L.length L.length) := fun o => (hgA o).cell cu0 (by simp)
                obtain ⟨gv, hgv⟩ : ∃ gv, gs[v] = gv := ⟨_, rfl⟩
                obtain ⟨gu, hgu⟩ : ∃ gu, gs[u] = gu := ⟨_, rfl⟩
                rw [hgv] at ctA
                rw [hgu] at cuA
                have HBE := Lib.hid hbe
                have HRV := Lib.hid (show ∀ o, Row (wr.alloc o).drew gv L.length (midF (bds p) r i v) from fun o => hgv ▸ ((hF v hv).gr0 (hgA o)).drew)
                have HRU := Lib.hid (show ∀ o, Row (wr.alloc o).drew gu L.length (midF (bds p) r i u) from fun o => hgu ▸ ((hF u hu).gr0 (hgA o)).drew)
                have HGV := Lib.hid hgv
                have hv2 : v < p.types.length := hok.1
                have hu2 : u < p.types.length := hok.2
                clear hok h1 hrow hF hTB hG hbe hgv hgu ct0 cu0
                go_wp2_with fail
                go_region_with (go_at_call 94; refine (l4Add_any gv gu L.length L.length L.length _ _ _ (HRV.out _) (HRU.out _) (by omega)).mono ?_; rintro e w6 ⟨rfl, hR6, hg6⟩)
                all_goals
                  have HR6 := Lib.hid hR6
                  have HG6 := Lib.hid hg6
                  clear hR6 hg6
                  go_wp2_with fail
                  go_roundw
                  case rel =>
                    obtain rfl := HGV.out
                    exact ⟨i + 1, by omega, by go_num, mid_step HF.out ((hgA _).drew) HND.out hv HG6.out HR6.out (fun j => by rw [midF_frm hkb HBE.out, if_pos rfl]) (fun x hx j => by rw [midF_frm hkb HBE.out, if_neg hx]) HT2.out HOFF.out HGS.out HG2.out⟩
                  case measure => simp [intOf]; omega
            · obtain rfl : i = L2.length := by omega
              have hlb : (bds p).length = L2.length := by have := congrArg List.length HBR2.out; rw [List.length_map] at this; omega
              have HF := Lib.hid hF
              have HT2 := Lib.hid hTB
              have HG2 := Lib.hid hG
              clear hF hTB hG
              go_wp2_with fail
              go_roundw
              case rel => exact ⟨r + 1, by omega, by go_num, HF.out.congr (fun v j _ _ => midF_next _ _ _ (by omega) v j), HT2.out, HG2.out⟩
              case measure => simp [intOf]; omega
        · obtain rfl : r = p.types.length + 1 := by omega
          have HF := Lib.hid hF
          have HT2 := Lib.hid hTB
          have HG2 := Lib.hid hG
          clear hF hTB hG
          go_wp2_with fail
          go_ret
          refine ⟨ao, cap, gs, hgl, rfl, ?_, ?_, (hG2.trans0 hgB).trans0 HG2.out⟩
          · rw [HM.out]; exact HT2.out
          · rw [HM.out]; exact HF.out.congr fun v j _ _ => midF_done p v j
end Go.Proofs.Ytpnaeijkllmihaa
