/- The points of a whole program, and the graph of a program: walks. -/
import Derived.Test.YtjlnfmiekmliaaaP2
import Derived.Deep.RegionHeld3
namespace Go.Proofs.Ytjlnfmiekmliaaa
open Go.RowKit

/-- The points of a program. -/
def pts (p : Pr) : List Pt := ptsL p.body 0 ++ [⟨11, 0, 0, 0, []⟩]
theorem pts_le (p : Pr) : (pts p).length ≤ 1 + 2 * St.count p.body := by
  have := ptsL_le p.body 0
  simp only [pts, List.length_append, List.length_cons, List.length_nil]; omega

/-- The points L are handed back, in new memory. -/
def Handed (L : List Pt) (w : World) (e : Ending) (w' : World) : Prop :=
  ∃ (M : List Pt) (a : Option Addr) (c : Nat), M = L ∧ e = .returned (.slice a M.length c) ∧ PtsOwn w' w.heap.size a c M ∧ Gr w w' none

theorem PtsOwn.empty {w : World} {base g : Nat} (hb : base ≤ g) (h : w.heap[g]? = some (.cells #[] 56 (0, 0))) : PtsOwn w base (some ⟨g, 0, none⟩) 0 [] :=
  ⟨[], rfl, ⟨by simp [flat], .inr ⟨g, 0, #[], rfl, hb, h, Nat.le_refl _, by unfold maxLen; omega, rfl, by simp [flat]⟩⟩, by simp, by simp⟩
theorem PtsOwn.base {w : World} {b b' : Nat} {a : Option Addr} {c : Nat} {l : List Pt} (h : PtsOwn w b a c l) (hb : b' ≤ b) : PtsOwn w b' a c l := by
  obtain ⟨nv, hl, ho, hn, hd⟩ := h
  refine ⟨nv, hl, own_mono ho hb, fun i hi => ?_, hd⟩
  rcases hn i hi with h1 | ⟨g, h1, h2, h3⟩
  · exact .inl h1
  · exact .inr ⟨g, h1, by omega, h3⟩

set_option maxRecDepth 100000 in
set_option maxHeartbeats 1000000 in
theorem points_any (p : Pr) (at' ab : Option Addr) (ct cb : Nat) (w : World) (hB : SlAt w Any p.body ab) (hc : St.count p.body ≤ 1000) (hl : p.body.length ≤ maxLen) :
    Calls Try.prog 81 #[.agg #[.slice at' p.types.length ct, .slice ab p.body.length cb]] w (Handed (pts p) w) := by
  have hg1 : ∀ o, Gr w (w.alloc o) none := fun o => (Gr.refl _ _).alloc _
  go_enter Try.func81, Try.ntmps81
  go_wp2_with fail
  refine (points_all (St.count p.body) p.body ab cb none 0 [] w.heap.size _ (Nat.le_refl _) (by simp; omega) (by simp) hl (SlAt.mono (fun _ _ _ => by simp [Off, ob]) (fun _ _ _ _ _ _ h => h) _ _ (hB.gr0 (hg1 _))) (PtsOwn.nil _ _)).mono ?_
  rintro e w1 ⟨M, a1, c1, hM, rfl, hown, hg, _⟩
  have hMl : M.length ≤ 2000 := by rw [hM]; have := ptsL_le p.body 0; simp; omega
  have HM := Lib.hid hM
  have hG : Gr w w1 none := (hg1 _).trans0 hg
  have hz : w.heap.size ≤ w1.heap.size := hG.size
  clear hM hg
  go_wp2_with (at_builtin; refine app_pts w1 _ rfl (.tmp 5) (.tmp 7) rfl w.heap.size a1 c1 M rfl hown ?g1 (by omega) (by omega) ⟨11, 0, 0, 0, []⟩ (.slice none 0 0) w1.heap.size 1 rfl ?g2 ?g3 ?g4 ?_)
  case g1 => exact (Gr.refl _ _).alloc _
  case g2 => exact heap1_0 _ _
  case g3 => exact .inl ⟨rfl, rfl⟩
  case g4 => intro b hb; simp [Value.ownBlock] at hb
  intro L' g cap' w' hL' hown' hg' hor
  have HL' := Lib.hid hL'
  have hrow := fun g h => (hown.row g h).1
  have hG2 : Gr w w' none := ⟨hg'.os.trans hG.os, hg'.tape.trans hG.tape, hg'.output.trans hG.output, by have := hg'.size; simp at this; omega, fun k hk _ => by
    rw [hg'.block k (by simp; omega) (fun e => by have := hrow k e.symm; omega), Below.heap_alloc _ _ _ (by omega), hG.block k hk (by simp)]⟩
  clear hL' hg' hor hrow
  go_wp2_with fail
  go_ret
  exact ⟨L', _, _, by rw [HL'.out, HM.out]; simp [pts], rfl, hown', hG2⟩

set_option maxRecDepth 100000 in
set_option maxHeartbeats 1000000 in
theorem l2Points_any (p : Pr) (at' ab : Option Addr) (ct cb : Nat) (w : World) (hB : SlAt w Any p.body ab) (hc : St.count p.body ≤ 1000) (hl : p.body.length ≤ maxLen) :
    Calls Try.prog 64 #[.agg #[.slice at' p.types.length ct, .slice ab p.body.length cb]] w (Handed (pts p) w) := by
  have hg1 : ∀ o o', Gr w ((w.alloc o).alloc o') none := fun o o' => ((Gr.refl _ _).alloc _).alloc _
  go_enter Try.func64, Try.ntmps64
  go_wp2_with fail
  refine (add_all (St.count p.body) p.body ab cb (some ⟨w.heap.size + 1, 0, none⟩) 0 [] (w.heap.size + 1) _ (Nat.le_refl _) (by simp; omega) (by simp) hl ((hB.old (n := w.heap.size + 1) (by omega)).gr0 (hg1 _ _)) (PtsOwn.empty (Nat.le_refl _) (heap2_1 _ _ _))).mono ?_
  rintro e w1 ⟨M, a1, c1, hM, rfl, hown, hg, _⟩
  have hMl : M.length ≤ 2000 := by rw [hM]; have := ptsL_le p.body 0; simp; omega
  have HM := Lib.hid hM
  have hG : Gr w w1 none := (hg1 _ _).trans hg (by intro r hr; injection hr with hr; subst hr; right; exact Nat.le_succ _)
  have hz : w.heap.size + 1 + 1 ≤ w1.heap.size := by have := hg.size; simpa using this
  clear hM hg
  go_wp2_with (at_builtin; refine app_pts w1 _ rfl (.tmp 6) (.tmp 8) rfl w.heap.size a1 c1 M rfl (hown.base (by omega)) ?g1 (by omega) (by omega) ⟨11, 0, 0, 0, []⟩ (.slice none 0 0) w1.heap.size 1 rfl ?g2 ?g3 ?g4 ?_)
  case g1 => exact (Gr.refl _ _).alloc _
  case g2 => exact heap1_0 _ _
  case g3 => exact .inl ⟨rfl, rfl⟩
  case g4 => intro b hb; simp [Value.ownBlock] at hb
  intro L' g cap' w' hL' hown' hg' hor
  have HL' := Lib.hid hL'
  have hrow := fun g h => (hown.row g h).1
  have hG2 : Gr w w' none := ⟨hg'.os.trans hG.os, hg'.tape.trans hG.tape, hg'.output.trans hG.output, by have := hg'.size; simp at this; omega, fun k hk _ => by
    rw [hg'.block k (by simp; omega) (fun e => by have := hrow k e.symm; omega), Below.heap_alloc _ _ _ (by omega), hG.block k hk (by simp)]⟩
  clear hL' hg' hor hrow
  go_wp2_with fail
  go_ret
  exact ⟨L', _, _, by rw [HL'.out, HM.out]; simp [pts], rfl, hown', hG2⟩

/-- The graph of a program lies in block gb. -/
def GraphAt (w : World) (p : Pr) (gb : Nat) : Prop := ∃ (L : List Pt) (at' : Option Addr) (ct : Nat) (ab : Option Addr) (cb : Nat) (al : Option Addr) (cl : Nat), L = pts p ∧
  w.cell? ⟨gb, 0, none⟩ = some (.slice at' p.types.length ct) ∧ w.cell? ⟨gb, 1, none⟩ = some (.slice ab p.body.length cb) ∧ w.cell? ⟨gb, 2, none⟩ = some (.slice al L.length cl) ∧
  InAt w Any p.types at' ∧ SlAt w Any p.body ab ∧ PtsAt w L al
theorem GraphAt.gr {w w' : World} {p : Pr} {gb : Nat} (h : GraphAt w p gb) (hg : Gr w w' none) : GraphAt w' p gb := by
  obtain ⟨L, at', ct, ab, cb, al, cl, hL, c0, c1, c2, h1, h2, h3⟩ := h
  exact ⟨L, at', ct, ab, cb, al, cl, hL, hg.cell c0 (by simp), hg.cell c1 (by simp), hg.cell c2 (by simp), h1.gr0 hg, h2.gr0 hg, h3.gr hg⟩

/-- Is the program valid, and are these points of it? -/
def graphOk (p : Pr) (qs : List Int) : Bool := validP p && qs.all fun q => within q 0 (((pts p).length : Int) - 1)
/-- What graphOf hands back. -/
def Graphed (p : Pr) (qs : List Int) (w : World) (e : Ending) (w' : World) : Prop :=
  Gr w w' none ∧ (if graphOk p qs = true then ∃ gb, e = .returned (.tuple #[.pointer (some ⟨gb, 0, none⟩), .bool true]) ∧ w.heap.size ≤ gb ∧ GraphAt w' p gb else e = .returned (.tuple #[.pointer none, .bool false]))

theorem count_length (l : List St) : l.length ≤ St.count l := by
  induction l with
  | nil => simp
  | cons s r ih => simp only [List.length_cons, St.count]; omega

theorem graph_new {w : World} {p : Pr} {M : List Pt} {at' ab a : Option Addr} {ct cb c : Nat} (hM : M = pts p) (hT : InAt w Any p.types at') (hB : SlAt w Any p.body ab) (hP : PtsAt w M a) :
    GraphAt (w.alloc (.cells #[.slice at' p.types.length ct, .slice ab p.body.length cb, .slice a M.length c] 63)) p w.heap.size := by
  have hg := (Gr.refl w none).alloc (.cells #[.slice at' p.types.length ct, .slice ab p.body.length cb, .slice a M.length c] 63)
  have hh := heap1_0 w (.cells #[.slice at' p.types.length ct, .slice ab p.body.length cb, .slice a M.length c] 63)
  exact ⟨M, at', ct, ab, cb, a, c, hM, cell_of_row _ _ 0 _ _ _ hh, cell_of_row _ _ 1 _ _ _ hh, cell_of_row _ _ 2 _ _ _ hh, hT.gr0 hg, hB.gr0 hg, hP.gr hg⟩
set_option maxRecDepth 100000 in
set_option maxHeartbeats 2000000 in
theorem graphOf_any (p : Pr) (qs : List Int) (at' ab aq : Option Addr) (ct cb cq : Nat) (w : World) (hT : InAt w Any p.types at') (hB : SlAt w Any p.body ab) (hQ : InAt w Any qs aq) (hlt : p.types.length ≤ 1048576) (hlb : p.body.length ≤ 1048576) (hlq : qs.length ≤ 1048576) :
    Calls Try.prog 60 #[.agg #[.slice at' p.types.length ct, .slice ab p.body.length cb], .slice aq qs.length cq] w (Graphed p qs w) := by
  have hg1 : ∀ o, Gr w (w.alloc o) none := fun o => (Gr.refl _ _).alloc _
  cases hv : validP p with
  | false =>
    have HV := Lib.hid hv
    clear hv
    go_enter Try.func60, Try.ntmps60
    go_wp2_with fail
    refine (valid_any p at' ab ct cb _ (hT.gr0 (hg1 _)) (hB.gr0 (hg1 _)) hlt hlb).mono ?_
    rw [HV.out]
    rintro e w1 ⟨rfl, hg⟩
    go_wp2_with fail
    go_ret2
    exact ⟨(hg1 _).trans0 hg, by rw [if_neg (by rw [graphOk, HV.out]; simp)]; rfl⟩
  | true =>
    have hcnt := valid_count hv
    have HV := Lib.hid hv
    clear hv
    go_enter Try.func60, Try.ntmps60
    go_wp2_with fail
    refine (valid_any p at' ab ct cb _ (hT.gr0 (hg1 _)) (hB.gr0 (hg1 _)) hlt hlb).mono ?_
    rw [HV.out]
    rintro e w1 ⟨rfl, hg⟩
    have hG1 : Gr w w1 none := (hg1 _).trans0 hg
    have q0 : w1.cell? ⟨w.heap.size, 0, none⟩ = some (.slice at' p.types.length ct) := hg.cell (p := ⟨w.heap.size, 0, none⟩) (cell?_new2 _ _).1 (by simp)
    have q1 : w1.cell? ⟨w.heap.size, 1, none⟩ = some (.slice ab p.body.length cb) := hg.cell (p := ⟨w.heap.size, 1, none⟩) (cell?_new2 _ _).2 (by simp)
    clear hg
    go_upto_region 3 with fail
    go_cut [6] (fun s6 wx => ∃ gb, s6 = .pointer (some ⟨gb, 0, none⟩) ∧ w.heap.size ≤ gb ∧ GraphAt wx p gb ∧ Gr w wx none)
    case first =>
      go_region_with (go_at_call 81; refine (points_any p at' ab ct cb _ (by exact hB.gr0 hG1.drew) (by omega) (by unfold maxLen; omega)).mono ?_; rintro e w2 ⟨M, a, c, hM, rfl, hown, hg2⟩; have HM := Lib.hid hM; have q0' := hg2.cell q0 (by simp); have q1' := hg2.cell q1 (by simp); clear hM)
      all_goals
        go_wp2_with fail
        go_meet
        exact ⟨w2.heap.size, rfl, (hG1.drew.trans0 hg2).size, graph_new HM.out (hT.gr0 (hG1.drew.trans0 hg2)) (hB.gr0 (hG1.drew.trans0 hg2)) hown.read, (hG1.drew.trans0 hg2).alloc _⟩
    case rest =>
      obtain ⟨gb, rfl, hgb, hGA, hG⟩ := hcut
      obtain ⟨L, a3, n3, a4, n4, al, cl, hL, d0, d1, d2, hr1, hr2, hr3⟩ := hGA
      have hLl : L.length ≤ 100 ∧ 1 ≤ L.length := by rw [hL]; have := pts_le p; exact ⟨by omega, by simp [pts]⟩
      obtain ⟨hLl1, hLl2⟩ := hLl
      have HGA : GraphAt wc p gb := ⟨L, a3, n3, a4, n4, al, cl, hL, d0, d1, d2, hr1, hr2, hr3⟩
      have HL := Lib.hid hL
      clear hL d0 d1 hr1 hr2 hr3
      go_wp2
      go_loop [19] (fun i => ∃ k : Nat, k ≤ qs.length ∧ i = .int .i64 k ∧ ((qs.take k).all fun q => within q 0 ((L.length : Int) - 1)) = true) (fun i => qs.length - (intOf i).toNat)
      case atStart => exact ⟨0, Nat.zero_le _, rfl, by simp⟩
      case round =>
        obtain ⟨k, hk, rfl, hall⟩ := hrel
        have HA := Lib.hid hall
        clear hall
        by_cases hlt' : k < qs.length
        · obtain ⟨b, off, rfl, _, hc⟩ := (hQ.gr0 hG).at hlt'
          obtain ⟨x, ex⟩ : ∃ x, qs[k] = x := ⟨_, rfl⟩
          rw [ex] at hc
          have EX := Lib.hid ex
          clear ex
          cases hw : within x 0 ((L.length : Int) - 1) with
          | false =>
            have HW := Lib.hid hw
            clear hw
            go_wp2_with (go_at_call 91; refine (within_any _ _ _ _).mono ?_; rw [HW.out]; rintro e w' ⟨rfl, rfl⟩)
            go_ret2
            exact ⟨hG, by rw [if_neg (by rw [graphOk, ← HL.out, all_at_false hlt' (by rw [EX.out]; exact HW.out)]; simp)]; rfl⟩
          | true =>
            have HW := Lib.hid hw
            clear hw
            go_wp2_with (go_at_call 91; refine (within_any _ _ _ _).mono ?_; rw [HW.out]; rintro e w' ⟨rfl, rfl⟩)
            go_round
            case rel => exact ⟨k + 1, by omega, by go_num, all_take_succ hlt' HA.out (by rw [EX.out]; exact HW.out)⟩
            case measure => simp [intOf]; omega
        · have hf := all_take_all (by omega) HA.out
          have HF := Lib.hid hf
          clear hf
          go_wp2
          go_ret2
          exact ⟨hG, by rw [if_pos (by rw [graphOk, HV.out, ← HL.out, HF.out]; rfl)]; exact ⟨gb, rfl, hgb, HGA⟩⟩
end Go.Proofs.Ytjlnfmiekmliaaa
