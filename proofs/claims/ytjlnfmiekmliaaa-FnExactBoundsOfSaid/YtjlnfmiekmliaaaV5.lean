/- Walks: the reference counts statements; its whole check; both checks say the same. -/
import Derived.Test.YtjlnfmiekmliaaaV4
namespace Go.Proofs.Ytjlnfmiekmliaaa
open Go.RowKit

theorem count_take_le (l : List St) (k : Nat) : St.count (l.take k) ≤ St.count l := by
  induction l generalizing k with
  | nil => simp [St.count]
  | cons s r ih =>
    cases k with
    | zero => simp [St.count]
    | succ k => have := ih k; simp only [List.take_succ_cons, St.count]; omega
theorem count_take_succ {l : List St} {k : Nat} (h : k < l.length) : St.count (l.take (k + 1)) = St.count (l.take k) + 1 + l[k].inner := by
  induction l generalizing k with
  | nil => simp at h
  | cons s r ih =>
    cases k with
    | zero => simp [St.count]
    | succ k =>
      have := ih (k := k) (by simpa using h)
      simp only [List.take_succ_cons, St.count, List.getElem_cons_succ]
      omega

/-- The count of a list, or something above m where the list's count is above m. -/
def Counted (l : List St) (m : Int) (w : World) (e : Ending) (w' : World) : Prop :=
  ∃ r : Int, e = .returned (.int .i64 r) ∧ 0 ≤ r ∧ r ≤ St.count l ∧ (r = St.count l ∨ m < r) ∧ w = w'

set_option maxRecDepth 100000 in
set_option maxHeartbeats 1000000 in
theorem count_any (n : Nat) : ∀ (l : List St) (a : Option Addr) (c : Nat) (m : Int) (w : World), St.count l ≤ n → n ≤ 1048576 → 0 ≤ m → m ≤ 1048576 → l.length ≤ maxLen → SlAt w Any l a →
    Calls Try.prog 97 #[.slice a l.length c, .int .i64 m] w (Counted l m w) := by
  induction n with
  | zero =>
    intro l a c m w hn _ h0 h1 _ hL
    cases l with
    | cons s r => simp only [St.count] at hn; omega
    | nil =>
      go_enter Try.func97, Try.ntmps97
      go_wp2
      refine wp_loop_rounds 1 ?_
      rw [rounds_succ]
      go_wp2
      go_ret
      exact ⟨0, rfl, by omega, by simp [St.count], .inl (by simp [St.count]), rfl⟩
  | succ n ih =>
    intro l a c m w hn hn2 h0 h1 hl hL
    have IH := Lib.hid ih
    clear ih
    unfold maxLen at hl
    go_enter Try.func97, Try.ntmps97
    go_wp2
    go_loop [5, 6] (fun r i => ∃ (k : Nat) (q : Int), k ≤ l.length ∧ i = .int .i64 k ∧ r = .int .i64 q ∧ 0 ≤ q ∧ q ≤ St.count (l.take k) ∧ (q = St.count (l.take k) ∨ m < q)) (fun _ i => l.length - (intOf i).toNat)
    case atStart => exact ⟨0, 0, Nat.zero_le _, rfl, rfl, by omega, by simp [St.count], .inl (by simp [St.count])⟩
    case round =>
      obtain ⟨k, q, hk, rfl, rfl, hq0, hq1, hq2⟩ := hrel
      have hct := count_take_le l k
      by_cases hlt : k < l.length
      · have hct2 := count_take_le l (k + 1)
        have hcs := count_take_succ hlt
        obtain ⟨b, off, rfl, hs⟩ := hL.at hlt
        obtain ⟨s, es⟩ : ∃ s, l[k] = s := ⟨_, rfl⟩
        have hin := count_get hlt
        rw [es] at hs hin hcs
        clear es
        obtain ⟨_, ht, he, at', ct, ae, ce, c0, c1, c2, c3, c4, c5, r4, r5⟩ := hs.out
        obtain ⟨op, x, y, nn, t, e⟩ := s
        simp only [St.thn, St.els, St.op, St.x, St.y, St.n, St.inner] at *
        have HCS := Lib.hid hcs
        clear hcs
        by_cases hm : m < q
        · go_wp2
          go_ret
          exact ⟨q, rfl, hq0, by omega, .inr hm, rfl⟩
        · have hq3 : q = St.count (l.take k) := by omega
          have HQ := Lib.hid hq3
          clear hq3 hq2
          go_wp2_with fail
          refine (IH.out t at' ct (m - q) w (by omega) (by omega) (by omega) (by omega) ht r4).mono ?_
          rintro e' w' ⟨r1, rfl, hr1, hr2, hr3, rfl⟩
          have HR1 := Lib.hid hr3
          clear hr3
          by_cases hm2 : m < q + 1 + r1
          · go_wp2_with fail
            go_round
            case rel => exact ⟨k + 1, q + 1 + r1, by omega, by go_num, rfl, by omega, by have := HCS.out; have := HQ.out; omega, .inr hm2⟩
            case measure => simp [intOf]; omega
          · go_wp2_with fail
            refine (IH.out e ae ce (m - (q + 1 + r1)) w (by omega) (by omega) (by omega) (by omega) he r5).mono ?_
            rintro e' w' ⟨r2, rfl, hr4, hr5, hr6, rfl⟩
            have HR2 := Lib.hid hr6
            clear hr6
            go_wp2_with fail
            go_round
            case rel => exact ⟨k + 1, q + 1 + r1 + r2, by omega, by go_num, rfl, by omega, by have := HCS.out; have := HQ.out; omega, by have h1 := HCS.out; have h2 := HQ.out; have h3 := HR1.out; have h4 := HR2.out; omega⟩
            case measure => simp [intOf]; omega
      · have hf : l.take k = l := List.take_of_length_le (by omega)
        rw [hf] at hq1 hq2
        have HQ := Lib.hid hq2
        clear hq2 hf
        go_wp2
        go_ret
        exact ⟨q, rfl, hq0, hq1, HQ.out, rfl⟩

theorem cell?_new2 (w : World) {v0 v1 : Value} (t : TypeId) :
    (w.alloc (.cells #[v0, v1] t)).cell? ⟨w.heap.size, 0, none⟩ = some v0 ∧ (w.alloc (.cells #[v0, v1] t)).cell? ⟨w.heap.size, 1, none⟩ = some v1 := by
  have := heap_alloc_new w (.cells #[v0, v1] t)
  unfold World.cell?
  rw [this]
  exact ⟨rfl, rfl⟩
def validS (p : Pr) : Bool := typesOk p.types && (bodyS p.types p.body 4 && decide (St.count p.body ≤ 30))
set_option maxRecDepth 100000 in
set_option maxHeartbeats 1000000 in
theorem validS_any (p : Pr) (at' ab : Option Addr) (ct cb : Nat) (w : World) (hT : InAt w Any p.types at') (hB : SlAt w Any p.body ab) (hlt : p.types.length ≤ 1048576) (hlb : St.count p.body ≤ 1048576) (hlc : p.body.length ≤ 1048576) :
    Calls Try.prog 74 #[.agg #[.slice at' p.types.length ct, .slice ab p.body.length cb]] w fun e w' => e = .returned (.bool (validS p)) ∧ Gr w w' none := by
  have hg1 : ∀ o, Gr w (w.alloc o) none := fun o => (Gr.refl _ _).alloc _
  cases hty : typesOk p.types with
  | false =>
    have HTY := Lib.hid hty
    clear hty
    go_enter Try.func74, Try.ntmps74
    go_wp2_with (go_at_call 95; refine (l1Types_any p.types _ _ _ (by exact hT.gr0 (hg1 _)) hlt).mono ?_; rw [HTY.out]; rintro e' w' ⟨rfl, rfl⟩)
    go_ret
    exact ⟨ret_bool (by rw [validS, HTY.out]; rfl), hg1 _⟩
  | true =>
    have HTY := Lib.hid hty
    clear hty
    cases hb : bodyS p.types p.body 4 with
    | false =>
      have HB := Lib.hid hb
      clear hb
      go_enter Try.func74, Try.ntmps74
      go_wp2_with (go_at_call 95; refine (l1Types_any p.types _ _ _ (by exact hT.gr0 (hg1 _)) hlt).mono ?_; rw [HTY.out]; rintro e' w' ⟨rfl, rfl⟩)
      refine ((st_all p.types _).2 p.body ab cb at' ct 4 _ (Nat.le_refl _) (by omega) (by omega) (by unfold maxLen; omega) (hT.gr0 (hg1 _)) (hB.gr0 (hg1 _))).mono ?_
      rw [HB.out]
      rintro e' w' ⟨rfl, hg2⟩
      go_wp2_with fail
      go_ret
      exact ⟨ret_bool (by rw [validS, HTY.out, HB.out]; rfl), (hg1 _).trans0 hg2⟩
    | true =>
      have HB := Lib.hid hb
      clear hb
      go_enter Try.func74, Try.ntmps74
      go_wp2_with (go_at_call 95; refine (l1Types_any p.types _ _ _ (by exact hT.gr0 (hg1 _)) hlt).mono ?_; rw [HTY.out]; rintro e' w' ⟨rfl, rfl⟩)
      refine ((st_all p.types _).2 p.body ab cb at' ct 4 _ (Nat.le_refl _) (by omega) (by omega) (by unfold maxLen; omega) (hT.gr0 (hg1 _)) (hB.gr0 (hg1 _))).mono ?_
      rw [HB.out]
      rintro e' w' ⟨rfl, hg2⟩
      have q1 : w'.cell? ⟨w.heap.size, 1, none⟩ = some (.slice ab p.body.length cb) := hg2.cell (p := ⟨w.heap.size, 1, none⟩) (cell?_new2 _ _).2 (by simp)
      go_wp2_with fail
      refine (count_any (St.count p.body) p.body ab cb 30 _ (Nat.le_refl _) hlb (by omega) (by omega) (by unfold maxLen; omega) ((hB.gr0 (hg1 _)).gr0 hg2)).mono ?_
      rintro e' w'' ⟨r, rfl, hr0, hr1, hr2, rfl⟩
      have HR := Lib.hid hr2
      clear hr2
      go_wp2_with fail
      go_ret
      exact ⟨ret_bool (by rw [validS, HTY.out, HB.out]; have := HR.out; simp; omega), (hg1 _).trans0 hg2⟩

/-! ### Both checks say the same -/
theorem tyOf_bounds {l : List Int} (h : l.all okT = true) (v : Int) : 0 ≤ tyOf l v ∧ tyOf l v ≤ 4 := by
  unfold tyOf
  split
  · rename_i hv
    have hk : v.toNat < l.length := by omega
    have := List.all_eq_true.1 h l[v.toNat] (List.getElem_mem hk)
    simp [okT, within] at this
    rw [List.getElem?_eq_getElem hk]
    simp only [Option.getD_some]
    omega
  · omega
theorem simple_same {l : List Int} (h : l.all okT = true) (op X Y N : Int) (nt ne : Nat) :
    simpleOk l op X Y N nt ne = ((nt : Int) == 0 && ((ne : Int) == 0 && simpleS l op X Y N)) := by
  have hx := tyOf_bounds h X
  have hy := tyOf_bounds h Y
  unfold simpleOk simpleS within
  generalize tyOf l X = x at *
  generalize tyOf l Y = y at *
  by_cases h0 : nt = 0
  · by_cases h1 : ne = 0
    · subst h0 h1
      by_cases o1 : op = 1
      · subst o1; simp; grind
      by_cases o2 : op = 2
      · subst o2; simp; grind
      by_cases o3 : op = 3
      · subst o3; simp; grind
      by_cases o4 : op = 4
      · subst o4; simp; grind
      by_cases o5 : op = 5
      · subst o5; simp; grind
      by_cases o6 : op = 6
      · subst o6; simp; grind
      by_cases o7 : op = 7
      · subst o7; simp
      by_cases o8 : op = 8
      · subst o8; simp; grind
      simp [o1, o2, o3, o4, o5, o6, o7, o8]
    · have : (0 : Nat) < ne := by omega
      simp [h1, this]
  · have : (0 : Nat) < nt := by omega
    simp [h0, this]

def lim (b : Bool) (n : Nat) : Option Nat := if b && decide (n ≤ 30) then some n else none
theorem lim_some {b : Bool} {n c : Nat} (h : lim b n = some c) : b = true ∧ n ≤ 30 ∧ c = n := by
  unfold lim at h
  split at h
  · rename_i h1; simp at h1 h; exact ⟨h1.1, h1.2, h.symm⟩
  · simp at h
theorem lim_true {n : Nat} (h : n ≤ 30) : lim true n = some n := by simp [lim, h]
theorem lim_false (n : Nat) : lim false n = none := by simp [lim]
theorem lim_big (b : Bool) {n : Nat} (h : 30 < n) : lim b n = none := by
  unfold lim; rw [if_neg]; simp; intro; omega
theorem lim_bind (a b : Bool) (n k : Nat) (f : Nat → Option Nat) (hf : ∀ c, c ≤ 30 → f c = lim b (c + k)) : (lim a n).bind f = lim (a && b) (n + k) := by
  cases a with
  | false => rw [lim_false, Option.bind_none, Bool.false_and, lim_false]
  | true =>
    by_cases h : n ≤ 30
    · rw [lim_true h, Option.bind_some, hf n h, Bool.true_and]
    · rw [lim_big _ (by omega), Option.bind_none, lim_big _ (by omega)]

mutual
theorem scan_same {types : List Int} (hty : types.all okT = true) : ∀ (s : St) (d : Int) (c : Nat), 0 ≤ d → d ≤ 4 → c ≤ 30 →
    scan types s d c = lim (stS types s (4 - d)) (c + 1 + s.inner)
  | .mk op x y n t e, d, c, hd0, hd, hc => by
    simp only [scan, stS, St.inner]
    by_cases h30 : 30 ≤ c
    · rw [if_pos h30, lim_big _ (by omega)]
    · rw [if_neg h30]
      by_cases hb : op = 9 ∨ op = 10
      · rw [if_pos (show (op == 9 || op == 10) = true from by simpa using hb), if_neg (show ¬ (op != 9 && op != 10) = true from by rcases hb with rfl | rfl <;> simp)]
        rw [show (decide (4 - d < 1)) = (d == 4) from by rw [Bool.eq_iff_iff]; simp; omega]
        by_cases hbad : (d == 4 || (x != 0 || (y != 0 || (n != 0 || (op == 10 && decide (0 < (e.length : Int))))))) = true
        · rw [if_pos hbad, if_pos hbad, lim_false]
        · rw [if_neg hbad, if_neg hbad]
          have hd4 : d < 4 := by
            by_cases h : d = 4
            · rw [h] at hbad; simp at hbad
            · omega
          rw [scanAll_same hty t (d + 1) (c + 1) (by omega) (by omega) (by omega), show 4 - (d + 1) = 4 - d - 1 from by omega]
          rw [lim_bind _ (bodyS types e (4 - d - 1)) (c + 1 + St.count t) (St.count e)]
          · rw [Nat.add_assoc]
          · intro c' hc'
            rw [scanAll_same hty e (d + 1) c' (by omega) (by omega) hc', show 4 - (d + 1) = 4 - d - 1 from by omega]
      · rw [if_neg (show ¬ (op == 9 || op == 10) = true from by simpa using hb), if_pos (show (op != 9 && op != 10) = true from by simpa using hb), simple_same hty]
        by_cases h1 : t = []
        · by_cases h2 : e = []
          · subst h1 h2
            cases hs : simpleS types op x y n with
            | true => simp [St.count]; rw [lim_true (by omega)]
            | false => simp [lim_false]
          · have h3 : ((e.length : Int) == 0) = false := by simpa using h2
            rw [h3]
            simp [lim]
        · have h3 : ((t.length : Int) == 0) = false := by simpa using h1
          rw [h3]
          simp [lim]
theorem scanAll_same {types : List Int} (hty : types.all okT = true) : ∀ (l : List St) (d : Int) (c : Nat), 0 ≤ d → d ≤ 4 → c ≤ 30 →
    scanAll types l d c = lim (bodyS types l (4 - d)) (c + St.count l)
  | [], d, c, _, _, hc => by rw [scanAll, bodyS, St.count, Nat.add_zero, lim_true hc]
  | s :: r, d, c, hd0, hd, hc => by
    simp only [scanAll, bodyS, St.count]
    rw [scan_same hty s d c hd0 hd hc, lim_bind _ (bodyS types r (4 - d)) _ (St.count r)]
    · rw [show c + 1 + s.inner + St.count r = c + (1 + s.inner + St.count r) from by omega]
    · intro c' hc'
      exact scanAll_same hty r d c' hd0 hd hc'
end
theorem valid_same (p : Pr) : validS p = validP p := by
  unfold validS validP
  cases hty : typesOk p.types with
  | false => rfl
  | true =>
    have h : p.types.all okT = true := by simp only [typesOk, Bool.and_eq_true] at hty; exact hty.2
    rw [scanAll_same h p.body 0 0 (by omega) (by omega) (by omega)]
    simp only [Bool.true_and, Nat.zero_add, Int.sub_zero]
    unfold lim
    cases bodyS p.types p.body 4 <;> by_cases hc : St.count p.body ≤ 30 <;> simp [hc]
/-- What a valid program gives. -/
theorem valid_count {p : Pr} (h : validP p = true) : St.count p.body ≤ 30 := by
  rw [← valid_same] at h
  simp [validS] at h
  exact h.2.2
end Go.Proofs.Ytjlnfmiekmliaaa
