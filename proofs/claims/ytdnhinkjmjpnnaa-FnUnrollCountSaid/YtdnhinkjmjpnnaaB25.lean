/- Walks of drawn arguments, with the room of the body's slice: the parser's lists, ParseProgram, a statement's place, the arguments of UnrollLoop. -/
import Derived.Test.YtdnhinkjmjpnnaaB16

import Derived.Test.YtdnhinkjmjpnnaaB8

namespace Go.Proofs.Ytdnhinkjmjpnnaa

open Go.RowKit

/-- Statements were read from the offset a on; their slice has room for them. -/
def ReadLC (z : Nat) (a : Int) (more : Nat) (w : World) (e : Ending) (w' : World) : Prop :=
  ∃ (l : List St) (ao : Option Addr) (cap : Nat) (next : Int), e = .returned (.tuple #[.slice ao l.length cap, .int .i64 next]) ∧ SlAt w' (New w.heap.size) l ao ∧ Gr w w' none ∧ ((next = -1 ∧ l = []) ∨ (0 ≤ a ∧ a + more ≤ next ∧ next ≤ z ∧ (St.count l : Int) + more ≤ next - a)) ∧ l.length ≤ cap
def LCC (d : Nat) : Prop := ∀ (s : ByteArray) (a : Int) (w : World), s.size ≤ 600 → 0 ≤ a → a ≤ s.size → Calls Try.prog 152 #[.string s, .int .i64 a, .int .i64 d] w (ReadLC s.size a 0 w)
set_option maxRecDepth 100000 in
set_option maxHeartbeats 8000000 in
theorem list_room (d : Nat) (_hd : d ≤ 100) (hP : PC d) : LCC d := by
  intro s a w hs h0 h1
  have HP := Lib.hid hP
  clear hP
  have hg1 : ∀ o, Gr w (w.alloc o) none := fun o => (Gr.refl _ _).alloc _
  have HE := Lib.hid (Sts.empty (w := w.alloc (.cells #[] 126)) (Nat.le_refl w.heap.size) (heap1_0 _ _))
  by_cases he : a = s.size
  · go_enter Try.func152, Try.ntmps152
    go_wp2_with fail
    go_ret2
    exact ⟨[], _, 0, a, rfl, by simp [SlAt], hg1 _, .inr ⟨by omega, by omega, by omega, by simp [St.count]⟩, by simp⟩
  · go_enter Try.func152, Try.ntmps152
    go_wp2_with fail
    refine (l1At_any s { data := #[125] } a _ (by omega) (by decide) (by omega) (by omega)).mono ?_
    rintro e w' ⟨b1, rfl, hb1, rfl⟩
    cases b1
    · clear hb1
      go_wp2_with fail
      go_loopw [1, 8] (fun k' o wr => ∃ (k : Int) (L : List St) (ao : Option Addr) (cap n : Nat), k' = .int .i64 k ∧ L.length = n ∧ o = .slice ao n cap ∧ a ≤ k ∧ k ≤ s.size ∧ Sts wr w.heap.size ao cap L ∧ (St.count L : Int) ≤ k - a ∧ Gr w wr none) (fun k' _ _ => s.size - (intOf k').toNat)
      case atStart => exact ⟨a, [], _, 0, 0, rfl, rfl, rfl, by omega, by omega, HE.out, by simp [St.count], hg1 _⟩
      case round =>
        obtain ⟨k, L, ao, cap, n, rfl, hL, rfl, hk0, hk1, hS, hc, hg⟩ := hrel
        have hlc := length_count L
        have hn : n ≤ 600 := by omega
        have HLn := Lib.hid hL
        have HS := Lib.hid hS
        have HC := Lib.hid hc
        have hk2 : 0 ≤ k := by omega
        clear hL hS hc hlc
        go_wp2_with fail
        refine (HP.out s k _ hs (by omega) (by omega)).mono ?_
        rintro e w1 ⟨st, r, next, rfl, hrow, hgr, hn1, hn2, hn3⟩
        have hG1 : Gr w w1 none := hg.trans0 hgr
        have HN := Lib.hid hn3
        have hrow' : StRow w1 (Inn w.heap.size ao) st r := hrow.sub fun b o hb => ⟨by have := hg.size; unfold New at hb; omega, fun e => by have := (HS.out.own b e).2; unfold New at hb; omega⟩
        have HS1 := Lib.hid (HS.out.gr0 hgr)
        obtain ⟨q1, q2, at', ct, ae, ce, rfl, q3, q4⟩ := hrow
        have HR := Lib.hid hrow'
        clear hrow' q1 q2 q3 q4 hn3 hgr
        have hsz1 : w.heap.size ≤ w1.heap.size := hG1.size
        have HSZ := Lib.hid hsz1
        have HGA := Lib.hid (show ∀ o o', Gr w1 ((w1.alloc o).alloc o') none from fun o o' => ((Gr.refl _ _).alloc _).alloc _)
        clear hsz1
        by_cases hneg : next < 0
        · clear hn1 hn2
          go_wp2_with (at_builtin; refine app_sts _ rfl (.tmp 32) (.tmp 34) rfl w.heap.size ao cap L n HLn.out rfl (HS1.out.gr0 (HGA.out _ _)) (by omega) (by have := HSZ.out; simp; omega) st _ ⟨w1.heap.size + 1, 0, none⟩ _ rfl (row_cells (heap2_1 _ _ _)) (HR.out.gr0 (HGA.out _ _)) ?_; rintro g cap' w2 hS2 hg2 ho2)
          have hG2 : Gr w w2 none := ((hG1.alloc _).alloc _).trans hg2 (fun r hr => .inr (HS.out.own r hr).1)
          go_ret2
          exact ⟨[], none, 0, -1, rfl, by simp [SlAt], hG2, .inl ⟨rfl, rfl⟩, by simp⟩
        · have hnn : 0 ≤ next := by omega
          by_cases hbig : s.size < next
          · go_wp2_with (at_builtin; refine app_sts _ rfl (.tmp 32) (.tmp 34) rfl w.heap.size ao cap L n HLn.out rfl (HS1.out.gr0 (HGA.out _ _)) (by omega) (by have := HSZ.out; simp; omega) st _ ⟨w1.heap.size + 1, 0, none⟩ _ rfl (row_cells (heap2_1 _ _ _)) (HR.out.gr0 (HGA.out _ _)) ?_; rintro g cap' w2 hS2 hg2 ho2)
            have hG2 : Gr w w2 none := ((hG1.alloc _).alloc _).trans hg2 (fun r hr => .inr (HS.out.own r hr).1)
            go_ret2
            exact ⟨[], none, 0, -1, rfl, by simp [SlAt], hG2, .inl ⟨rfl, rfl⟩, by simp⟩
          · have hle : next ≤ s.size := by omega
            have hN := HN.out hnn
            have HN2 := Lib.hid hN
            have hL1 := Lib.hid (show (L ++ [st]).length = n + 1 by rw [List.length_append, HLn.out]; rfl)
            have hC1 := Lib.hid (show (St.count (L ++ [st]) : Int) ≤ next - a by have := HC.out; have := hN.2; rw [count_app, count_one]; omega)
            have hkn := hN.1
            clear hN
            go_wp2_with (at_builtin; refine app_sts _ rfl (.tmp 32) (.tmp 34) rfl w.heap.size ao cap L n HLn.out rfl (HS1.out.gr0 (HGA.out _ _)) (by omega) (by have := HSZ.out; simp; omega) st _ ⟨w1.heap.size + 1, 0, none⟩ _ rfl (row_cells (heap2_1 _ _ _)) (HR.out.gr0 (HGA.out _ _)) ?_; rintro g cap' w2 hS2 hg2 ho2)
            have hG2 : Gr w w2 none := ((hG1.alloc _).alloc _).trans hg2 (fun r hr => .inr (HS.out.own r hr).1)
            refine (l1At_any s { data := #[59] } next _ (by omega) (by decide) (by omega) (by omega)).mono ?_
            rintro e w' ⟨b2, rfl, hb2, rfl⟩
            cases b2
            · clear hb2
              go_wp2_with fail
              go_ret2
              exact ⟨L ++ [st], _, cap', next, by rw [hL1.out]; rfl, hS2.at, hG2, .inr ⟨h0, by omega, hle, by have := hC1.out; omega⟩, hS2.cap⟩
            · have hy := hb2 rfl
              rw [show (ByteArray.mk #[59]).size = 1 from rfl] at hy
              clear hb2
              go_wp2_with fail
              go_roundw
              case rel => exact ⟨next + 1, L ++ [st], _, cap', n + 1, rfl, hL1.out, rfl, by omega, by omega, hS2, by have := hC1.out; omega, hG2⟩
              case measure => simp [intOf]; omega
    · have hy := hb1 rfl
      rw [show (ByteArray.mk #[125]).size = 1 from rfl] at hy
      clear hb1
      go_wp2_with fail
      go_ret2
      exact ⟨[], _, 0, a, rfl, by simp [SlAt], hg1 _, .inr ⟨by omega, by omega, by omega, by simp [St.count]⟩, by simp⟩
theorem list_four : LCC 4 := list_room 4 (by omega) (parse_step 4 (by omega) (by
  have := braces_step 3 (by omega) (list_all 3 (by omega))
  rw [show ((4 : Nat) : Int) - 1 = ((3 : Nat) : Int) from by omega]
  exact this))
def ReadPC (w : World) (e : Ending) (w' : World) : Prop := ∃ (p : Pr) (at' ab : Option Addr) (ct cb : Nat) (b : Bool),
  e = .returned (.tuple #[.agg #[.slice at' p.types.length ct, .slice ab p.body.length cb], .bool b]) ∧ InAt w' (New w.heap.size) p.types at' ∧ SlAt w' (New w.heap.size) p.body ab ∧ p.types.length ≤ 6 ∧ St.count p.body ≤ 30 ∧ Gr w w' none ∧ p.body.length ≤ cb
theorem ReadPC.none (w w' : World) (b : Bool) (hg : Gr w w' Option.none) : ReadPC w (.returned (.tuple #[.agg #[.slice Option.none 0 0, .slice Option.none 0 0], .bool b])) w' :=
  ⟨⟨[], []⟩, Option.none, Option.none, 0, 0, b, rfl, by simp [InAt], by simp [SlAt], by simp, by simp [St.count], hg, by simp⟩
set_option maxRecDepth 100000 in
set_option maxHeartbeats 4000000 in
theorem parse_room (s : ByteArray) (w : World) (hs : s.size ≤ 1000000) : Calls Try.prog 111 #[.string s] w (ReadPC w) := by
  by_cases h6 : 600 < s.size
  · go_enter Try.func111, Try.ntmps111
    go_wp2_with fail
    refine bodyPost_ret (v := .tuple #[.agg #[.slice none 0 0, .slice none 0 0], .bool false]) (by simp [results, Try.results111, go_sem]) rfl ?_
    exact ReadPC.none _ _ _ ((Gr.refl _ _).alloc _)
  · have hs6 : s.size ≤ 600 := by omega
    have hP0 := PS.start w
    go_enter Try.func111, Try.ntmps111
    go_wp2_with fail
    go_loopw [5] (fun i wr => ∃ (k n cap : Nat) (ao : Option Addr) (l : List Int), k ≤ s.size ∧ n ≤ k ∧ i = .int .i64 k ∧ PS w wr ao n cap l) (fun i _ => s.size - (intOf i).toNat)
    case atStart => exact ⟨0, 0, 0, none, [], Nat.zero_le _, Nat.le_refl _, rfl, hP0⟩
    case round =>
      clear hP0
      obtain ⟨k, n, cap, ao, l, hk, hnk, rfl, hPS⟩ := hrel
      have hsz := hPS.size
      have HP := Lib.hid hPS
      obtain ⟨p0, p1, pf, r0, r1, rf, hL, hG⟩ := hPS
      have HL := Lib.hid hL
      clear hL
      by_cases hlt : k < s.size
      · by_cases h58 : (s[k].toNat : Int) = 58
        · have hk1 : (k : Int) + 1 ≤ s.size := by omega
          go_wp2_with fail
          refine (list_four s ((k : Int) + 1) _ hs6 (by omega) (by omega)).mono ?_
          rintro e w1 ⟨L, aL, cL, next, rfl, hLa, hg1, hn, hcL⟩
          have HCL := Lib.hid hcL
          clear hcL
          have hG1 := hG.trans0 hg1
          have hw1 : wr.heap.size ≤ w1.heap.size := hg1.size
          replace p0 := hg1.cell p0 (by simp)
          replace p1 := hg1.cell p1 (by simp)
          replace r0 := hg1.cell r0 (by simp)
          replace r1 := hg1.cell r1 (by simp)
          have pf1 : w1.frozen? ⟨w.heap.size + 1, 1, none⟩ = false := (hg1.frozen (p := ⟨w.heap.size + 1, 1, none⟩) (by simp; omega) (by simp)).trans (pf 1)
          have rf0 : w1.frozen? ⟨w.heap.size, 0, none⟩ = false := (hg1.frozen (p := ⟨w.heap.size, 0, none⟩) (by simp; omega) (by simp)).trans (rf 0)
          have rf1 : w1.frozen? ⟨w.heap.size, 1, none⟩ = false := (hg1.frozen (p := ⟨w.heap.size, 1, none⟩) (by simp; omega) (by simp)).trans (rf 1)
          have hLI := (HL.out.at).gr0 hg1
          have hnl : l.length = n := HL.out.1
          have hcl : St.count L ≤ 600 := by rcases hn with ⟨_, rfl⟩ | ⟨_, _, _, _⟩ <;> first | (simp [St.count]; done) | omega
          subst hnl
          clear hn pf rf hG hg1 HP HL
          have hs1 : Gr w1 (w1.setCell ⟨w.heap.size + 1, 1, none⟩ (.slice aL L.length cL)) (some (w.heap.size + 1)) := own_set _ _ _ _
          have hI2 : InAt (w1.setCell ⟨w.heap.size + 1, 1, none⟩ (.slice aL L.length cL)) (New (w.heap.size + 2)) l ao := InAt.gr hs1 (fun b o hb e => by cases e; unfold New at hb; omega) hLI
          have hS2 : SlAt (w1.setCell ⟨w.heap.size + 1, 1, none⟩ (.slice aL L.length cL)) (New wr.heap.size) L aL := SlAt.far hLa hs1 (fun r hr => by cases hr; omega)
          have hG2 : Gr w (w1.setCell ⟨w.heap.size + 1, 1, none⟩ (.slice aL L.length cL)) none := hG1.setNew (p := ⟨w.heap.size + 1, 1, none⟩) (by show w.heap.size ≤ w.heap.size + 1; omega) _
          have HI2 := Lib.hid hI2
          have HS2 := Lib.hid hS2
          have HG2 := Lib.hid hG2
          have hlc := length_count L
          clear hs1 hI2 hS2 hG2 hLI hLa hG1
          by_cases hnx : next = s.size
          · subst hnx
            go_wp2_with fail
            refine (validS_any ⟨l, L⟩ ao aL cap cL _ HI2.out.any HS2.out.any (by show l.length ≤ _; omega) (by show St.count L ≤ _; omega) (by show L.length ≤ _; omega)).mono ?_
            rintro e w3 ⟨rfl, hg3⟩
            have hw3 : w1.heap.size ≤ w3.heap.size := by have := hg3.size; simpa [World.setCell] using this
            have t0 : w3.cell? ⟨w.heap.size + 1, 0, none⟩ = some (.slice ao l.length cap) := hg3.cell (by rw [World.cell?_setCell_other _ _ _ _ (by simp)]; exact p0) (by simp)
            have t1 : w3.cell? ⟨w.heap.size + 1, 1, none⟩ = some (.slice aL L.length cL) := hg3.cell (World.cell?_setCell_same _ _ _ p1) (by simp)
            have u0 : w3.cell? ⟨w.heap.size, 0, none⟩ = some (.slice none 0 0) := hg3.cell (by rw [World.cell?_setCell_other _ _ _ _ (by simp)]; exact r0) (by simp)
            have u1 : w3.cell? ⟨w.heap.size, 1, none⟩ = some (.slice none 0 0) := hg3.cell (by rw [World.cell?_setCell_other _ _ _ _ (by simp)]; exact r1) (by simp)
            have g0 : w3.frozen? ⟨w.heap.size, 0, none⟩ = false := (hg3.frozen (p := ⟨w.heap.size, 0, none⟩) (by simp [World.setCell]; omega) (by simp)).trans (by rw [World.frozen?_setCell]; exact rf0)
            have g1 : w3.frozen? ⟨w.heap.size, 1, none⟩ = false := (hg3.frozen (p := ⟨w.heap.size, 1, none⟩) (by simp [World.setCell]; omega) (by simp)).trans (by rw [World.frozen?_setCell]; exact rf1)
            have HI3 := Lib.hid (HI2.out.gr0 hg3)
            have HS3 := Lib.hid (HS2.out.gr0 hg3)
            have HG3 := Lib.hid (HG2.out.trans0 hg3)
            clear p0 p1 r0 r1 pf1 rf0 rf1 hg3
            cases hv : validS ⟨l, L⟩ with
            | false =>
              go_wp2_with fail
              refine bodyPost_ret (v := .tuple #[.agg #[.slice none 0 0, .slice none 0 0], .bool false]) (by simp [results, Try.results111, go_sem, u0, u1]) rfl ?_
              exact ReadPC.none w (put2 _ w.heap.size _ _) _ (put2_gr HG3.out (Nat.le_refl _))
            | true =>
              have HV := Lib.hid hv
              clear hv
              go_wp2_with fail
              refine (programText_any ⟨l, L⟩ HV.out ao aL cap cL _ HI3.out.any HS3.out.any).mono ?_
              rintro e w4 ⟨s4, rfl, hs4, hg4⟩
              have hw4 : w3.heap.size ≤ w4.heap.size := hg4.size
              replace t0 := hg4.cell t0 (by simp)
              replace t1 := hg4.cell t1 (by simp)
              replace u0 := hg4.cell u0 (by simp)
              replace u1 := hg4.cell u1 (by simp)
              replace g0 : w4.frozen? ⟨w.heap.size, 0, none⟩ = false := (hg4.frozen (p := ⟨w.heap.size, 0, none⟩) (by simp; omega) (by simp)).trans g0
              replace g1 : w4.frozen? ⟨w.heap.size, 1, none⟩ = false := (hg4.frozen (p := ⟨w.heap.size, 1, none⟩) (by simp; omega) (by simp)).trans g1
              have HI4 := Lib.hid (HI3.out.gr0 hg4)
              have HS4 := Lib.hid (HS3.out.gr0 hg4)
              have HG4 := Lib.hid (HG3.out.trans0 hg4)
              clear hg4
              have hv6 : l.length ≤ 6 := by
                have h := HV.out
                unfold validS typesOk at h
                simp only [Bool.and_eq_true, decide_eq_true_eq] at h
                omega
              have hv30 : St.count L ≤ 30 := by
                have h := HV.out
                unfold validS at h
                simp only [Bool.and_eq_true, decide_eq_true_eq] at h
                exact h.2.2
              go_wp2_with fail
              · refine bodyPost_ret (v := .tuple #[.agg #[.slice none 0 0, .slice none 0 0], .bool false]) (by simp [results, Try.results111, go_sem, u0, u1]) rfl ?_
                exact ReadPC.none w (put2 _ w.heap.size _ _) _ (put2_gr HG4.out (Nat.le_refl _))
              · refine bodyPost_ret (v := .tuple #[.agg #[.slice ao l.length cap, .slice aL L.length cL], .bool true]) (by simp [results, Try.results111, go_sem, u0, u1]) rfl ?_
                exact ⟨⟨l, L⟩, ao, aL, cap, cL, true, rfl, HI4.out.put2 (by omega), HS4.out.put2 (by omega), hv6, hv30, put2_gr HG4.out (Nat.le_refl _), HCL.out⟩
          · go_wp2_with fail
            refine bodyPost_ret (v := .tuple #[.agg #[.slice none 0 0, .slice none 0 0], .bool false]) (by simp [results, Try.results111, go_sem, r0, r1]) rfl ?_
            exact ReadPC.none w (put2 _ w.heap.size _ _) _ (put2_gr HG2.out (Nat.le_refl _))
        · clear p1 r0 r1 rf
          have hpf := pf 0
          go_wp2_with (at_builtin; refine app_l2 wr _ rfl (.tmp 36) (.tmp 38) rfl (w.heap.size + 2) (w.heap.size + 2) ao cap n l _ rfl HL.out ((Gr.refl _ _).alloc _) wr.heap.size 1 rfl (cell_of_row _ _ _ _ _ _ (heap1_0 _ _)) (by omega) hsz ?_; rintro g cap' w2 hL2 hg2; obtain ⟨q0, qf⟩ := HP.out.after hg2)
          all_goals
            go_roundw
            case rel => exact ⟨k + 1, n + 1, cap', _, _, by omega, by omega, by go_num, HP.out.step hL2 hg2⟩
            case measure => simp [intOf]; omega
      · obtain rfl : k = s.size := by omega
        have rf0 := rf 0
        have rf1 := rf 1
        clear p0 p1 pf rf
        go_wp2_with fail
        refine bodyPost_ret (v := .tuple #[.agg #[.slice none 0 0, .slice none 0 0], .bool false]) (by simp [results, Try.results111, go_sem, r0, r1]) rfl ?_
        exact ReadPC.none w (put2 wr w.heap.size _ _) _ (put2_gr hG (Nat.le_refl _))
/-- A program and a number were drawn; the body's slice has room for its statements. -/
def DrawnC (w : World) (e : Ending) (w' : World) : Prop := ∃ (p : Pr) (v0 v1 : Value) (n : Int), e = .returned (.tuple #[.agg #[v0, v1], .int .i64 n]) ∧ PrAt w w' p v0 v1 ∧ (∀ a m c, v1 = .slice a m c → m ≤ c) ∧ -1000000 ≤ n ∧ n ≤ 1000000 ∧ Gr w w' none
theorem l11r_ret {R : Ending → World → Prop} {tmps : Array Value} {u : World} {b : Nat} {x0 x1 : Value} (hz : Zp u b x0 x1) {v0 v1 v3 : Value} (ht : tmps.getD 2 undef = .pointer (some ⟨b, 0, none⟩)) (h3 : tmps.getD 3 undef = v3) (h : R (.returned (.tuple #[.agg #[v0, v1], v3])) (put2 u b v0 v1)) :
    bodyPost Try.prog Try.f113 R .ret { tmps := tmps, defers := [] } (put2 u b v0 v1) := by
  obtain ⟨c0, c1⟩ := hz.put2 v0 v1
  generalize put2 u b v0 v1 = W at *
  have ht' : tmps[2]?.getD undef = .pointer (some ⟨b, 0, none⟩) := by simpa using ht
  have h3' : tmps[3]?.getD undef = v3 := by simpa using h3
  refine bodyPost_ret (v := .tuple #[.agg #[v0, v1], v3]) ?_ rfl h
  simp [results, Try.results113, go_sem, ht', h3', c0, c1]
set_option maxRecDepth 100000 in
set_option maxHeartbeats 8000000 in
theorem l11Place_room (a : Option Addr) (n c : Nat) (w : World) (h : BytesIn w a n) (hc : n ≤ c) (hn : n ≤ 100000000) : Calls Try.prog 113 #[.slice a n c] w (DrawnC w) := by
  have hZ := Zp.new w (.slice none 0 0) (.slice none 0 0) 30
  have hA : Gr w (w.alloc (.cells #[.slice none 0 0, .slice none 0 0] 30)) none := (Gr.refl _ _).alloc _
  have hBy := h.gr0 hA
  go_enter Try.func113, Try.ntmps113
  go_wp2_with fail
  refine (open_any a n c _ hBy hc hn).mono ?_
  rintro e w1 ⟨rb, rfl, hR1, hrb, hg1⟩
  have hwr : w.heap.size < rb := by simp at hrb; omega
  have hZ1 := hZ.gr hg1 (by simp)
  have hG1 := hA.trans0 hg1
  have hlt1 := hR1.lt
  clear hZ hA hBy h hg1 hrb
  go_wp2_with fail
  refine (l1Draw_any rb 0 w1 hR1 (by omega)).mono ?_
  rintro e w2 ⟨p1, a1, b1, c1, d1, rfl, hT1, hB1, ht1, hc1, hg2, hr2⟩
  have hs2 : w1.heap.size ≤ w2.heap.size := hg2.size
  have hZ2 := hZ1.gr hg2 (by simp; omega)
  have hG2 := hG1.trans hg2 (fun r e => .inr (by cases e; omega))
  have hlt2 := hr2.lt
  clear hZ1 hG1 hg2 hR1
  go_wp2_with fail
  refine (l1Mutate_cap rb (0 + 400) p1 a1 b1 c1 d1 w2 hr2 (by omega) (hT1.mono (fun _ _ _ => trivial) (fun _ _ _ _ h => h)) (hB1.sub fun _ _ _ => trivial) ht1 hc1).mono ?_
  rintro e w3 ⟨p, at', ab, ct, cb, rfl, hT2, hB2, ht2, hc2, hg3, hr3, hcb⟩
  have HCB := Lib.hid hcb
  clear hcb
  have hlb := count_length p.body
  have hs3 : w2.heap.size ≤ w3.heap.size := hg3.size
  have hlt3 := hr3.lt
  have hrb9 : rb ≠ w3.heap.size := by omega
  have hgA : Gr w3 (w3.alloc (.cells #[.slice at' p.types.length ct, .slice ab p.body.length cb] 30)) none := (Gr.refl _ _).alloc _
  have hS0 : DrS w (w3.alloc (.cells #[.slice at' p.types.length ct, .slice ab p.body.length cb] 30)) rb (0 + 400 + 3) w3.heap.size p at' ab ct cb :=
    ⟨(hG2.trans hg3 (fun r e => .inr (by cases e; omega))).trans0 hgA, (hZ2.gr hg3 (by simp; omega)).gr hgA (by simp), Zp.new _ _ _ _, (hT2.mono (fun k _ hk => by unfold New at hk; exact ⟨by omega, by omega⟩) (fun _ _ _ _ h => h)).gr0 hgA, (hB2.sub (fun k _ hk => by unfold New at hk; exact ⟨by omega, by omega⟩)).gr0 hgA, hr3.gr0 hgA⟩
  clear hZ2 hG2 hg3 hr2 hT1 hB1 hT2 hB2 hr3
  go_upto_region 3 with fail
  obtain ⟨wA, hwA⟩ : ∃ wA : World, wA = w3.alloc (.cells #[.slice at' p.types.length ct, .slice ab p.body.length cb] 30) := ⟨_, rfl⟩
  rw [← hwA] at hS0 hgA ⊢
  have hszA : w3.heap.size < wA.heap.size := by rw [hwA]; simp
  clear hwA
  have HS1 := Lib.hid hS0
  clear hS0 hgA
  have q0 := HS1.out.2.2.1.1
  have q1 := HS1.out.2.2.1.2.1
  by_cases hM0 : p.body.length = 0
  · have hM0' : ((p.body.length : Int) == 0) = true := by rw [hM0]; rfl
    have HM0 := Lib.hid hM0
    clear hM0
    go_upto_region 4 with fail
    have HS := HS1
    clear q0 q1
    refine wp_region_held_drew (S := fun w' => Gr w w' none ∧ w'.cell? ⟨w3.heap.size, 0, none⟩ = some (.slice at' p.types.length ct) ∧ w'.cell? ⟨w3.heap.size, 1, none⟩ = some (.slice ab p.body.length cb)) (by kernel_rfl) (⟨HS.out.1.drew, HS.out.2.2.1.1, HS.out.2.2.1.2.1⟩) (fun hHeld => ?_)
    refine wpAnyH_take (i := 0) (v := ?_) rfl (by kernel_rfl) (by kernel_rfl) (by kernel_rfl) (fun _ _ _ h => h) (Or.inl ⟨by rfl, ?_⟩) hHeld ?_
    rotate_left
    focus (intro wq hq; obtain ⟨_, k0, k1⟩ := hq; go_simp; try with_reducible rfl)
    simp only [Act.put, List.getElem_toArray, List.getElem_cons_zero, List.setIfInBounds_toArray, List.set_cons_zero, List.set_cons_succ]
    refine wpAnyH_take (i := 1) (v := ?_) rfl (by kernel_rfl) (by kernel_rfl) (by kernel_rfl) (fun _ _ _ h => h) (Or.inl ⟨by rfl, ?_⟩) hHeld ?_
    rotate_left
    focus (intro wq hq; clear hq; go_simp; try with_reducible rfl)
    simp only [Act.put, List.getElem_toArray, List.getElem_cons_succ, List.getElem_cons_zero, List.setIfInBounds_toArray, List.set_cons_zero, List.set_cons_succ]
    refine wpAnyH_ready (rs := [2]) (by kernel_rfl) (by simp) ?_
    refine AllReadyH.cons rfl (fun K hK => ?_) AllReadyH.nil
    go_simp
    try dsimp only
    refine hK.out _ _ (⟨Gr.alloc hHeld.1 _, ((Gr.refl _ none).alloc _).cell hHeld.2.1 (by simp), ((Gr.refl _ none).alloc _).cell hHeld.2.2 (by simp)⟩) (fun hHeld => ?_)
    clear hK K
    try simp only [Act.put, List.getElem_toArray, List.getElem_cons_succ, List.getElem_cons_zero, List.setIfInBounds_toArray, List.set_cons_zero, List.set_cons_succ]
    refine wpAnyH_ready (rs := [3]) (by kernel_rfl) (by simp) ?_
    refine AllReadyH.cons rfl (fun K hK => ?_) AllReadyH.nil
    go_simp
    refine (num_any rb (0 + 400 + 3) [0, -1, 40] 3 rfl _ _ _ (HS.out.2.2.2.2.2.gr0 ((Gr.refl _ none).drew.alloc _)) (by omega) (inAt_lit _ rb (by simp; omega) _ _ rfl _) (by omega) (by omega)).mono ?_
    rintro e w9 ⟨v9, hm9, rfl, hg9, hr9⟩
    have HS9 := Lib.hid ((HS.out.gr0 ((Gr.refl _ none).drew.alloc _)).far hg9 hr9 hwr hrb9)
    try dsimp only
    refine hK.out _ _ (⟨Gr.trans hHeld.1 hg9 (fun r e => .inr (by cases e; omega)), Gr.cell hg9 hHeld.2.1 (by simp; omega), Gr.cell hg9 hHeld.2.2 (by simp; omega)⟩) (fun hHeld => ?_)
    clear hK K
    try simp only [Act.put, List.getElem_toArray, List.getElem_cons_succ, List.getElem_cons_zero, List.setIfInBounds_toArray, List.set_cons_zero, List.set_cons_succ]
    refine wpAnyH_ready (rs := [4]) (by kernel_rfl) (by simp) ?_
    refine AllReadyH.cons rfl (fun K hK => ?_) AllReadyH.nil
    obtain ⟨z0, z1, zf⟩ := HS9.out.2.1
    go_simp
    try dsimp only
    refine hK.out _ _ (⟨put2_gr hHeld.1 (Nat.le_refl _), by rw [World.cell?_setCell_other _ _ _ _ (by simp <;> omega), World.cell?_setCell_other _ _ _ _ (by simp <;> omega)]; exact hHeld.2.1, by rw [World.cell?_setCell_other _ _ _ _ (by simp <;> omega), World.cell?_setCell_other _ _ _ _ (by simp <;> omega)]; exact hHeld.2.2⟩) (fun hHeld => ?_)
    clear hK K
    try simp only [Act.put, List.getElem_toArray, List.getElem_cons_succ, List.getElem_cons_zero, List.setIfInBounds_toArray, List.set_cons_zero, List.set_cons_succ]
    refine wpAnyH_take (i := 5) (v := ?_) rfl (by kernel_rfl) (by kernel_rfl) (by kernel_rfl) (fun _ _ _ h => h) (Or.inl ⟨by rfl, ?_⟩) hHeld ?_
    rotate_left
    focus (intro wq hq; clear hq; go_simp; try with_reducible rfl)
    simp only [Act.put, List.getElem_toArray, List.getElem_cons_succ, List.getElem_cons_zero, List.setIfInBounds_toArray, List.set_cons_zero, List.set_cons_succ]
    refine wpAnyH_done (by kernel_rfl) ?_ _
    have hv9 : -1000000 ≤ v9 ∧ v9 ≤ 1000000 := by simp at hm9; omega
    obtain ⟨z0, z1, zf⟩ := HS9.out.2.1
    have HH := Lib.hid hHeld
    clear hHeld
    go_wp2_with fail
    (try simp only [Exit.inBlock, Exit.then])
    refine l11r_ret (b := w.heap.size) HS9.out.2.1 rfl rfl ?_
    exact ⟨p, _, _, v9, rfl, HS9.out.put ht2 hc2, (fun _ _ _ e => by cases e; exact HCB.out), hv9.1, hv9.2, HH.out.1⟩
  · have hM0' : ((p.body.length : Int) == 0) = false := beq_eq_false_iff_ne.2 (by omega)
    go_wp2_with fail
    refine (pick_any rb (0 + 400 + 3) 12 _ HS1.out.2.2.2.2.2 (by omega) (by omega) (by omega)).mono ?_
    rintro e w4 ⟨v4, rfl, hv4, hv4', hg4, hr4⟩
    have HS := Lib.hid (HS1.out.far hg4 hr4 hwr hrb9)
    have hsz4 : w3.heap.size < w4.heap.size := HS.out.2.2.1.lt
    clear HS1 hg4 hr4 q0 q1
    by_cases hv : v4 = 0
    · subst hv
      go_upto_region 4 with fail
      refine wp_region_held_drew (S := fun w' => Gr w w' none ∧ w'.cell? ⟨w3.heap.size, 0, none⟩ = some (.slice at' p.types.length ct) ∧ w'.cell? ⟨w3.heap.size, 1, none⟩ = some (.slice ab p.body.length cb)) (by kernel_rfl) (⟨HS.out.1.drew, HS.out.2.2.1.1, HS.out.2.2.1.2.1⟩) (fun hHeld => ?_)
      refine wpAnyH_take (i := 0) (v := ?_) rfl (by kernel_rfl) (by kernel_rfl) (by kernel_rfl) (fun _ _ _ h => h) (Or.inl ⟨by rfl, ?_⟩) hHeld ?_
      rotate_left
      focus (intro wq hq; obtain ⟨_, k0, k1⟩ := hq; go_simp; try with_reducible rfl)
      simp only [Act.put, List.getElem_toArray, List.getElem_cons_zero, List.setIfInBounds_toArray, List.set_cons_zero, List.set_cons_succ]
      refine wpAnyH_take (i := 1) (v := ?_) rfl (by kernel_rfl) (by kernel_rfl) (by kernel_rfl) (fun _ _ _ h => h) (Or.inl ⟨by rfl, ?_⟩) hHeld ?_
      rotate_left
      focus (intro wq hq; clear hq; go_simp; try with_reducible rfl)
      simp only [Act.put, List.getElem_toArray, List.getElem_cons_succ, List.getElem_cons_zero, List.setIfInBounds_toArray, List.set_cons_zero, List.set_cons_succ]
      refine wpAnyH_ready (rs := [2]) (by kernel_rfl) (by simp) ?_
      refine AllReadyH.cons rfl (fun K hK => ?_) AllReadyH.nil
      go_simp
      try dsimp only
      refine hK.out _ _ (⟨Gr.alloc hHeld.1 _, ((Gr.refl _ none).alloc _).cell hHeld.2.1 (by simp), ((Gr.refl _ none).alloc _).cell hHeld.2.2 (by simp)⟩) (fun hHeld => ?_)
      clear hK K
      try simp only [Act.put, List.getElem_toArray, List.getElem_cons_succ, List.getElem_cons_zero, List.setIfInBounds_toArray, List.set_cons_zero, List.set_cons_succ]
      refine wpAnyH_ready (rs := [3]) (by kernel_rfl) (by simp) ?_
      refine AllReadyH.cons rfl (fun K hK => ?_) AllReadyH.nil
      go_simp
      refine (num_any rb (0 + 400 + 3 + 1) [0, -1, 40] 3 rfl _ _ _ (HS.out.2.2.2.2.2.gr0 ((Gr.refl _ none).drew.alloc _)) (by omega) (inAt_lit _ rb (by simp; omega) _ _ rfl _) (by omega) (by omega)).mono ?_
      rintro e w9 ⟨v9, hm9, rfl, hg9, hr9⟩
      have HS9 := Lib.hid ((HS.out.gr0 ((Gr.refl _ none).drew.alloc _)).far hg9 hr9 hwr hrb9)
      try dsimp only
      refine hK.out _ _ (⟨Gr.trans hHeld.1 hg9 (fun r e => .inr (by cases e; omega)), Gr.cell hg9 hHeld.2.1 (by simp; omega), Gr.cell hg9 hHeld.2.2 (by simp; omega)⟩) (fun hHeld => ?_)
      clear hK K
      try simp only [Act.put, List.getElem_toArray, List.getElem_cons_succ, List.getElem_cons_zero, List.setIfInBounds_toArray, List.set_cons_zero, List.set_cons_succ]
      refine wpAnyH_ready (rs := [4]) (by kernel_rfl) (by simp) ?_
      refine AllReadyH.cons rfl (fun K hK => ?_) AllReadyH.nil
      obtain ⟨z0, z1, zf⟩ := HS9.out.2.1
      go_simp
      try dsimp only
      refine hK.out _ _ (⟨put2_gr hHeld.1 (Nat.le_refl _), by rw [World.cell?_setCell_other _ _ _ _ (by simp <;> omega), World.cell?_setCell_other _ _ _ _ (by simp <;> omega)]; exact hHeld.2.1, by rw [World.cell?_setCell_other _ _ _ _ (by simp <;> omega), World.cell?_setCell_other _ _ _ _ (by simp <;> omega)]; exact hHeld.2.2⟩) (fun hHeld => ?_)
      clear hK K
      try simp only [Act.put, List.getElem_toArray, List.getElem_cons_succ, List.getElem_cons_zero, List.setIfInBounds_toArray, List.set_cons_zero, List.set_cons_succ]
      refine wpAnyH_take (i := 5) (v := ?_) rfl (by kernel_rfl) (by kernel_rfl) (by kernel_rfl) (fun _ _ _ h => h) (Or.inl ⟨by rfl, ?_⟩) hHeld ?_
      rotate_left
      focus (intro wq hq; clear hq; go_simp; try with_reducible rfl)
      simp only [Act.put, List.getElem_toArray, List.getElem_cons_succ, List.getElem_cons_zero, List.setIfInBounds_toArray, List.set_cons_zero, List.set_cons_succ]
      refine wpAnyH_done (by kernel_rfl) ?_ _
      have hv9 : -1000000 ≤ v9 ∧ v9 ≤ 1000000 := by simp at hm9; omega
      obtain ⟨z0, z1, zf⟩ := HS9.out.2.1
      have HH := Lib.hid hHeld
      clear hHeld
      go_wp2_with fail
      (try simp only [Exit.inBlock, Exit.then])
      refine l11r_ret (b := w.heap.size) HS9.out.2.1 rfl rfl ?_
      exact ⟨p, _, _, v9, rfl, HS9.out.put ht2 hc2, (fun _ _ _ e => by cases e; exact HCB.out), hv9.1, hv9.2, HH.out.1⟩
    · go_upto_region 5 with fail
      refine wp_region_held_drew (S := fun w' => Gr w w' none ∧ w'.cell? ⟨w3.heap.size, 0, none⟩ = some (.slice at' p.types.length ct) ∧ w'.cell? ⟨w3.heap.size, 1, none⟩ = some (.slice ab p.body.length cb)) (by kernel_rfl) (⟨HS.out.1.drew, HS.out.2.2.1.1, HS.out.2.2.1.2.1⟩) (fun hHeld => ?_)
      refine wpAnyH_take (i := 0) (v := ?_) rfl (by kernel_rfl) (by kernel_rfl) (by kernel_rfl) (fun _ _ _ h => h) (Or.inl ⟨by rfl, ?_⟩) hHeld ?_
      rotate_left
      focus (intro wq hq; obtain ⟨_, k0, k1⟩ := hq; go_simp; try with_reducible rfl)
      simp only [Act.put, List.getElem_toArray, List.getElem_cons_zero, List.setIfInBounds_toArray, List.set_cons_zero, List.set_cons_succ]
      refine wpAnyH_take (i := 1) (v := ?_) rfl (by kernel_rfl) (by kernel_rfl) (by kernel_rfl) (fun _ _ _ h => h) (Or.inl ⟨by rfl, ?_⟩) hHeld ?_
      rotate_left
      focus (intro wq hq; clear hq; go_simp; try with_reducible rfl)
      simp only [Act.put, List.getElem_toArray, List.getElem_cons_succ, List.getElem_cons_zero, List.setIfInBounds_toArray, List.set_cons_zero, List.set_cons_succ]
      refine wpAnyH_take (i := 2) (v := ?_) rfl (by kernel_rfl) (by kernel_rfl) (by kernel_rfl) (fun _ _ _ h => h) (Or.inl ⟨by rfl, ?_⟩) hHeld ?_
      rotate_left
      focus (intro wq hq; clear hq; go_simp; try with_reducible rfl)
      simp only [Act.put, List.getElem_toArray, List.getElem_cons_succ, List.getElem_cons_zero, List.setIfInBounds_toArray, List.set_cons_zero, List.set_cons_succ]
      refine wpAnyH_take (i := 3) (v := ?_) rfl (by kernel_rfl) (by kernel_rfl) (by kernel_rfl) (fun _ _ _ h => h) (Or.inl ⟨by rfl, ?_⟩) hHeld ?_
      rotate_left
      focus (intro wq hq; obtain ⟨_, k0, k1⟩ := hq; go_simp; try with_reducible rfl)
      simp only [Act.put, List.getElem_toArray, List.getElem_cons_succ, List.getElem_cons_zero, List.setIfInBounds_toArray, List.set_cons_zero, List.set_cons_succ]
      refine wpAnyH_take (i := 4) (v := ?_) rfl (by kernel_rfl) (by kernel_rfl) (by kernel_rfl) (fun _ _ _ h => h) (Or.inl ⟨by rfl, ?_⟩) hHeld ?_
      rotate_left
      focus (intro wq hq; clear hq; go_simp; try with_reducible rfl)
      simp only [Act.put, List.getElem_toArray, List.getElem_cons_succ, List.getElem_cons_zero, List.setIfInBounds_toArray, List.set_cons_zero, List.set_cons_succ]
      refine wpAnyH_ready (rs := [5]) (by kernel_rfl) (by simp) ?_
      refine AllReadyH.cons rfl (fun K hK => ?_) AllReadyH.nil
      go_simp
      refine (pick_any rb (0 + 400 + 3 + 1) p.body.length _ (HS.out.2.2.2.2.2.gr0 ((Gr.refl _ none).drew)) (by omega) (by omega) (by omega)).mono ?_
      rintro e w9 ⟨v9, rfl, hv9a, hv9b, hg9, hr9⟩
      have HS9 := Lib.hid ((HS.out.gr0 ((Gr.refl _ none).drew)).far hg9 hr9 hwr hrb9)
      try dsimp only
      refine hK.out _ _ (⟨Gr.trans hHeld.1 hg9 (fun r e => .inr (by cases e; omega)), Gr.cell hg9 hHeld.2.1 (by simp; omega), Gr.cell hg9 hHeld.2.2 (by simp; omega)⟩) (fun hHeld => ?_)
      clear hK K
      try simp only [Act.put, List.getElem_toArray, List.getElem_cons_succ, List.getElem_cons_zero, List.setIfInBounds_toArray, List.set_cons_zero, List.set_cons_succ]
      refine wpAnyH_ready (rs := [6]) (by kernel_rfl) (by simp) ?_
      refine AllReadyH.cons rfl (fun K hK => ?_) AllReadyH.nil
      obtain ⟨z0, z1, zf⟩ := HS9.out.2.1
      go_simp
      try dsimp only
      refine hK.out _ _ (⟨put2_gr hHeld.1 (Nat.le_refl _), by rw [World.cell?_setCell_other _ _ _ _ (by simp <;> omega), World.cell?_setCell_other _ _ _ _ (by simp <;> omega)]; exact hHeld.2.1, by rw [World.cell?_setCell_other _ _ _ _ (by simp <;> omega), World.cell?_setCell_other _ _ _ _ (by simp <;> omega)]; exact hHeld.2.2⟩) (fun hHeld => ?_)
      clear hK K
      try simp only [Act.put, List.getElem_toArray, List.getElem_cons_succ, List.getElem_cons_zero, List.setIfInBounds_toArray, List.set_cons_zero, List.set_cons_succ]
      refine wpAnyH_take (i := 7) (v := ?_) rfl (by kernel_rfl) (by kernel_rfl) (by kernel_rfl) (fun _ _ _ h => h) (Or.inl ⟨by rfl, ?_⟩) hHeld ?_
      rotate_left
      focus (intro wq hq; clear hq; go_simp; try with_reducible rfl)
      simp only [Act.put, List.getElem_toArray, List.getElem_cons_succ, List.getElem_cons_zero, List.setIfInBounds_toArray, List.set_cons_zero, List.set_cons_succ]
      refine wpAnyH_done (by kernel_rfl) ?_ _
      have hv9 : -1000000 ≤ v9 ∧ v9 ≤ 1000000 := by have := hv9b (by omega); omega
      obtain ⟨z0, z1, zf⟩ := HS9.out.2.1
      have HH := Lib.hid hHeld
      clear hHeld
      go_wp2_with fail
      (try simp only [Exit.inBlock, Exit.then])
      refine l11r_ret (b := w.heap.size) HS9.out.2.1 rfl rfl ?_
      exact ⟨p, _, _, v9, rfl, HS9.out.put ht2 hc2, (fun _ _ _ e => by cases e; exact HCB.out), hv9.1, hv9.2, HH.out.1⟩
theorem unrD_ret {R : Ending → World → Prop} {tmps : Array Value} {u : World} {b : Nat} {x0 x1 : Value} (hz : Zp u b x0 x1) {v0 v1 v3 : Value} (ht : tmps.getD 2 undef = .pointer (some ⟨b, 0, none⟩)) (h3 : tmps.getD 3 undef = v3) (h : R (.returned (.tuple #[.agg #[v0, v1], v3])) (put2 u b v0 v1)) :
    bodyPost Try.prog Try.f61 R .ret { tmps := tmps, defers := [] } (put2 u b v0 v1) := by
  obtain ⟨c0, c1⟩ := hz.put2 v0 v1
  generalize put2 u b v0 v1 = W at *
  have ht' : tmps[2]?.getD undef = .pointer (some ⟨b, 0, none⟩) := by simpa using ht
  have h3' : tmps[3]?.getD undef = v3 := by simpa using h3
  refine bodyPost_ret (v := .tuple #[.agg #[v0, v1], v3]) ?_ rfl h
  simp [results, Try.results61, go_sem, ht', h3', c0, c1]
set_option maxRecDepth 100000 in
set_option maxHeartbeats 8000000 in
theorem unrD_any (a : Option Addr) (n c : Nat) (w : World) (h : BytesIn w a n) (hc : n ≤ c) (hn : n ≤ 100000000) : Calls Try.prog 61 #[.slice a n c] w (DrawnC w) := by
  have hZ := Zp.new w (.slice none 0 0) (.slice none 0 0) 30
  have hA : Gr w (w.alloc (.cells #[.slice none 0 0, .slice none 0 0] 30)) none := (Gr.refl _ _).alloc _
  have hBy := h.gr0 hA
  go_enter Try.func61, Try.ntmps61
  go_wp2_with fail
  refine (open_any a n c _ hBy hc hn).mono ?_
  rintro e w1 ⟨rb, rfl, hR1, hrb, hg1⟩
  have hwr : w.heap.size < rb := by simp at hrb; omega
  have hZ1 := hZ.gr hg1 (by simp)
  have hG1 := hA.trans0 hg1
  have hlt1 := hR1.lt
  clear hZ hA hBy hg1 hrb
  go_wp2_with fail
  refine (pick_any rb 0 3 _ hR1 (by omega) (by omega) (by omega)).mono ?_
  rintro e w2 ⟨v2, rfl, hv2, hv2', hg2, hr2⟩
  have hZ2 := hZ1.gr hg2 (by simp; omega)
  have hG2 := hG1.trans hg2 (fun r e => .inr (by cases e; omega))
  have hlt2 := hr2.lt
  have HBY := Lib.hid h
  clear hZ1 hG1 hg2 hR1 h hv2'
  by_cases hp : 0 < v2
  · go_wp2_with fail
    refine (l1Texts_any _).mono ?_
    rintro e w3 ⟨gT, rfl, hS, hgT, hg3⟩
    have hZ3 := hZ2.gr hg3 (by simp)
    have hG3 := hG2.trans0 hg3
    have hr3 := hr2.gr0 hg3
    have hlt3 := hr3.lt
    have hgA : ∀ o, Gr w3 (w3.alloc o) none := fun o => (Gr.refl _ _).alloc _
    clear hZ2 hG2 hr2 hg3
    go_wp2_with fail
    refine (num_any rb (0 + 1) [11, 12, 15, 16] 4 rfl _ _ _ (hr3.gr0 (hgA _)) (by omega) (inAt_lit _ rb hlt3 _ _ rfl _) (by omega) (by omega)).mono ?_
    rintro e w4 ⟨v4, hm4, rfl, hg4, hr4⟩
    obtain ⟨k1, rfl, hk1⟩ : ∃ k1 : Nat, v4 = k1 ∧ k1 < 25 := ⟨v4.toNat, by simp at hm4; omega, by simp at hm4; omega⟩
    obtain ⟨s, hcs, hss⟩ := ((hS.gr (hgA _) (by simp)).gr hg4 (by simp; omega)) k1 hk1
    have hZ4 := (hZ3.gr (hgA _) (by simp)).gr hg4 (by simp; omega)
    have hG4 := (hG3.trans0 (hgA _)).trans hg4 (fun r e => .inr (by cases e; omega))
    have hlt4 := hr4.lt
    have hk1i : (0 : Int) ≤ (k1 : Int) ∧ (k1 : Int) < 25 := by omega
    clear hS hZ3 hG3 hr3 hg4 hm4 hgA
    go_wp2_with fail
    refine (parse_room s _ hss).mono ?_
    rintro e w5 ⟨p, at', ab, ct, cb, b, rfl, hT5, hB5, ht6, hc30, hg5, hcb⟩
    have HCB := Lib.hid hcb
    have hlb := count_length p.body
    have ht2 : p.types.length ≤ 7 := by omega
    have hc2 : St.count p.body ≤ 4000 := by omega
    have hsz5 := hg5.size
    have hrb9 : rb ≠ w5.heap.size := by omega
    have hgA : Gr w5 (w5.alloc (.cells #[.slice at' p.types.length ct, .slice ab p.body.length cb] 30)) none := (Gr.refl _ _).alloc _
    have hS0 : DrS w (w5.alloc (.cells #[.slice at' p.types.length ct, .slice ab p.body.length cb] 30)) rb (0 + 1 + 1) w5.heap.size p at' ab ct cb :=
      ⟨(hG4.trans0 hg5).trans0 hgA, (hZ4.gr hg5 (by simp)).gr hgA (by simp), Zp.new _ _ _ _, (hT5.mono (fun k _ hk => by unfold New at hk; exact ⟨by omega, by omega⟩) (fun _ _ _ _ h => h)).gr0 hgA, (hB5.sub (fun k _ hk => by unfold New at hk; exact ⟨by omega, by omega⟩)).gr0 hgA, (hr4.gr0 hg5).gr0 hgA⟩
    clear hZ4 hG4 hg5 hr4 hT5 hB5 hcs hss hcb
    go_upto_region 5 with fail
    obtain ⟨wA, hwA⟩ : ∃ wA : World, wA = w5.alloc (.cells #[.slice at' p.types.length ct, .slice ab p.body.length cb] 30) := ⟨_, rfl⟩
    rw [← hwA] at hS0 hgA ⊢
    have hszA : w5.heap.size < wA.heap.size := by rw [hwA]; simp
    clear hwA
    have HS := Lib.hid hS0
    clear hS0 hgA
    go_wp2_with fail
    go_loopw [8] (fun i wr => ∃ j : Nat, i = .int .i64 j ∧ j ≤ p.body.length ∧ Gr wA wr none) (fun i _ => p.body.length - (intOf i).toNat)
    case atStart => exact ⟨0, rfl, Nat.zero_le _, Gr.refl _ _⟩
    case round =>
      obtain ⟨j, rfl, hj, hg⟩ := hrel
      have HSr := Lib.hid (HS.out.gr0 hg)
      have HGr := Lib.hid hg
      obtain ⟨y0, y1, -⟩ := HSr.out.2.2.1
      clear hg
      by_cases hlt : j < p.body.length
      · obtain ⟨bb, oo, rfl, hst⟩ := HSr.out.2.2.2.2.1.at hlt
        obtain ⟨-, -, -, at1, ct1, ae1, ce1, c0, -, -, -, -, -, -, -⟩ := hst.out
        obtain ⟨o1, ho1⟩ : ∃ o1, p.body[j].op = o1 := ⟨_, rfl⟩
        rw [ho1] at c0
        clear hst ho1
        by_cases ho : o1 = 10
        · subst ho
          obtain ⟨z0, z1, zf⟩ := HSr.out.2.1
          go_wp2_with fail
          (try simp only [Exit.inBlock, Exit.then])
          refine unrD_ret (b := w.heap.size) HSr.out.2.1 rfl rfl ?_
          exact ⟨p, _, _, j, rfl, HSr.out.put ht2 hc2, (fun _ _ _ e => by cases e; exact HCB.out), by omega, by omega, put2_gr HSr.out.1 (Nat.le_refl _)⟩
        · have eo : (o1 == 10) = false := beq_eq_false_iff_ne.2 ho
          go_wp2_with fail
          go_roundw
          case rel => exact ⟨j + 1, by go_num, by omega, HGr.out⟩
          case measure => simp [intOf]; omega
      · obtain rfl : j = p.body.length := by omega
        have HZw := Lib.hid (show w.heap.size < wr.heap.size from HSr.out.2.1.lt)
        go_wp2_with fail
        refine (l11Place_room a n c _ (HBY.out.gr0 HSr.out.1) hc hn).mono ?_
        rintro e w6 ⟨p, v0, v1, k, rfl, ⟨at', ab, ct, cb, rfl, rfl, hT, hB, ht, hc2⟩, hcb, hk1, hk2, hg6⟩
        have HZ := Lib.hid (HSr.out.2.1.gr hg6 (by simp))
        have HG := Lib.hid (HSr.out.1.trans0 hg6)
        have hszz := HZw.out
        obtain ⟨z0, z1, zf⟩ := HZ.out
        have hT' := Lib.hid hT
        have hB' := Lib.hid hB
        have HCB := Lib.hid (hcb _ _ _ rfl)
        clear hT hB hcb
        go_wp2_with fail
        (try simp only [Exit.inBlock, Exit.then])
        refine unrD_ret (b := w.heap.size) HZ.out rfl rfl ?_
        exact ⟨p, _, _, k, rfl, PrAt.put (Nat.le_refl _) hszz hT'.out hB'.out ht hc2 rfl rfl, (fun _ _ _ e => by cases e; exact HCB.out), hk1, hk2, put2_gr HG.out (Nat.le_refl _)⟩
  · obtain rfl : v2 = 0 := by omega
    have HZw := Lib.hid (show w.heap.size < w2.heap.size from hZ2.lt)
    go_wp2_with fail
    refine (l11Place_room a n c _ (HBY.out.gr0 hG2) hc hn).mono ?_
    rintro e w6 ⟨p, v0, v1, k, rfl, ⟨at', ab, ct, cb, rfl, rfl, hT, hB, ht, hc2⟩, hcb, hk1, hk2, hg6⟩
    have HZ := Lib.hid (hZ2.gr hg6 (by simp))
    have HG := Lib.hid (hG2.trans0 hg6)
    have hszz := HZw.out
    obtain ⟨z0, z1, zf⟩ := HZ.out
    have hT' := Lib.hid hT
    have hB' := Lib.hid hB
    have HCB := Lib.hid (hcb _ _ _ rfl)
    clear hT hB hcb
    go_wp2_with fail
    (try simp only [Exit.inBlock, Exit.then])
    refine unrD_ret (b := w.heap.size) HZ.out rfl rfl ?_
    exact ⟨p, _, _, k, rfl, PrAt.put (Nat.le_refl _) hszz hT'.out hB'.out ht hc2 rfl rfl, (fun _ _ _ e => by cases e; exact HCB.out), hk1, hk2, put2_gr HG.out (Nat.le_refl _)⟩
end Go.Proofs.Ytdnhinkjmjpnnaa
