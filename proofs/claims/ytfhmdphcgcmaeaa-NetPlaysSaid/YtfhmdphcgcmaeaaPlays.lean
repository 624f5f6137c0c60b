/-
  NetPlays: the walk.
-/
import Derived.Test.YtfhmdphcgcmaeaaStep1
set_option linter.unusedVariables false
set_option linter.unusedSimpArgs false
namespace Go.Proofs.Ytfhmdphcgcmaeaa
open Go.RowKit

/-- Two nets with their references, in blocks of their own. -/
def Two (w0 : World) (g1 g2 : Nat) (m1 : Int) (g3 g4 : Nat) (m2 : Int) (W : World) : Prop :=
  ∃ T1 T2, (∀ b, T1 b → w0.heap.size ≤ b) ∧ (∀ b, T2 b → w0.heap.size ≤ b) ∧ (∀ b, T1 b → ¬ T2 b) ∧ (∃ ls ids, PairN T1 g1 g2 m1 ls ids W) ∧ (∃ ls ids, PairN T2 g3 g4 m2 ls ids W) ∧ Below w0.heap.size w0 W
theorem Two.swap {w0 : World} {g1 g2 : Nat} {m1 : Int} {g3 g4 : Nat} {m2 : Int} {W : World} (h : Two w0 g1 g2 m1 g3 g4 m2 W) : Two w0 g3 g4 m2 g1 g2 m1 W := by
  obtain ⟨T1, T2, h1, h2, h3, h4, h5, h6⟩ := h
  exact ⟨T2, T1, h2, h1, fun b hb hb' => h3 b hb' hb, h5, h4, h6⟩
theorem Two.later {w0 : World} {g1 g2 : Nat} {m1 : Int} {g3 g4 : Nat} {m2 : Int} {W W' : World} (h : Two w0 g1 g2 m1 g3 g4 m2 W) (hb : Later W W') : Two w0 g1 g2 m1 g3 g4 m2 W' := by
  obtain ⟨T1, T2, h1, h2, h3, ⟨l1, i1, h4⟩, ⟨l2, i2, h5⟩, h6⟩ := h
  exact ⟨T1, T2, h1, h2, h3, ⟨l1, i1, h4.later hb⟩, ⟨l2, i2, h5.later hb⟩, below_step h6 h6.size hb⟩
def RetTwo (w0 : World) (g1 g2 : Nat) (m1 : Int) (g3 g4 : Nat) (m2 : Int) (e : Ending) (w' : World) : Prop := e = .returned (.bool true) ∧ Two w0 g1 g2 m1 g3 g4 m2 w'
theorem Two.step {w0 : World} {g1 g2 : Nat} {m1 : Int} {g3 g4 : Nat} {m2 : Int} {W : World} (h : Two w0 g1 g2 m1 g3 g4 m2 W) {A0 : Option Addr} {o : OpV} {k : Nat} {ad : Addr} {A1 : Option Addr} {c1 : Nat} {B1 : Option Addr} {d1 : Nat} (hop : OpAt w0 A0 o k ad A1 c1 B1 d1) (hl2 : o.2.2.2.length * 8 ≤ 140737488351232) :
    Calls Try.prog 23 #[.pointer (some ⟨g1, 0, none⟩), .pointer (some ⟨g2, 0, none⟩), .agg #[.int .i64 o.1, .int .i64 o.2.1, .int .i64 o.2.2.1.1, .int .i64 o.2.2.1.2.1, .slice A1 o.2.2.1.2.2.length c1, .slice B1 o.2.2.2.length d1]] W (RetTwo w0 g1 g2 m1 g3 g4 m2) := by
  obtain ⟨T1, T2, h1, h2, h3, ⟨l1, i1, h4⟩, ⟨l2, i2, h5⟩, h6⟩ := h
  refine (step_any w0 W h4 h6 h1 o.1 o.2.1 o.2.2.1.1 o.2.2.1.2.1 A1 o.2.2.1.2.2 c1 B1 o.2.2.2 d1 hop.bc (by have := hop.bl; omega) hop.bs hop.ic hl2 hop.is).mono ?_
  rintro e w' ⟨rfl, ls', ids', hp, ho⟩
  refine ⟨rfl, _, _, ?_, ?_, ?_, ⟨ls', ids', hp⟩, ⟨l2, i2, h5.cut.keep fun b hb hs => ho.block b hb (fun hc => h3 b hc.1 hs.1)⟩, h6.trans (ho.below (fun b hb => h1 b hb.1) h6.size)⟩
  · exact fun b hb => hb.elim (fun h => h1 b h.1) (fun h => Nat.le_trans h6.size h)
  · exact fun b hb => h2 b hb.1
  · exact fun b hb hc => hb.elim (fun h => h3 b h.1 hc.1) (fun h => Nat.lt_irrefl _ (Nat.lt_of_lt_of_le hc.2 h))
/-- One alone (where the other is none). -/
def One (w0 : World) (g3 g4 : Nat) (m2 : Int) (W : World) : Prop := ∃ T2, (∀ b, T2 b → w0.heap.size ≤ b) ∧ (∃ ls ids, PairN T2 g3 g4 m2 ls ids W) ∧ Below w0.heap.size w0 W
theorem One.later {w0 : World} {g3 g4 : Nat} {m2 : Int} {W W' : World} (h : One w0 g3 g4 m2 W) (hb : Later W W') : One w0 g3 g4 m2 W' := by
  obtain ⟨T2, h2, ⟨l2, i2, h5⟩, h6⟩ := h
  exact ⟨T2, h2, ⟨l2, i2, h5.later hb⟩, below_step h6 h6.size hb⟩
def RetOne (w0 : World) (g3 g4 : Nat) (m2 : Int) (e : Ending) (w' : World) : Prop := e = .returned (.bool true) ∧ One w0 g3 g4 m2 w'
theorem One.step {w0 : World} {g1 g2 : Nat} {m1 : Int} {W : World} (h : One w0 g1 g2 m1 W) {A0 : Option Addr} {o : OpV} {k : Nat} {ad : Addr} {A1 : Option Addr} {c1 : Nat} {B1 : Option Addr} {d1 : Nat} (hop : OpAt w0 A0 o k ad A1 c1 B1 d1) (hl2 : o.2.2.2.length * 8 ≤ 140737488351232) :
    Calls Try.prog 23 #[.pointer (some ⟨g1, 0, none⟩), .pointer (some ⟨g2, 0, none⟩), .agg #[.int .i64 o.1, .int .i64 o.2.1, .int .i64 o.2.2.1.1, .int .i64 o.2.2.1.2.1, .slice A1 o.2.2.1.2.2.length c1, .slice B1 o.2.2.2.length d1]] W (RetOne w0 g1 g2 m1) := by
  obtain ⟨T1, h1, ⟨l1, i1, h4⟩, h6⟩ := h
  refine (step_any w0 W h4 h6 h1 o.1 o.2.1 o.2.2.1.1 o.2.2.1.2.1 A1 o.2.2.1.2.2 c1 B1 o.2.2.2 d1 hop.bc (by have := hop.bl; omega) hop.bs hop.ic hl2 hop.is).mono ?_
  rintro e w' ⟨rfl, ls', ids', hp, ho⟩
  exact ⟨rfl, _, fun b hb => hb.elim (fun h => h1 b h.1) (fun h => Nat.le_trans h6.size h), ⟨ls', ids', hp⟩, h6.trans (ho.below (fun b hb => h1 b hb.1) h6.size)⟩
theorem pair_new {W : World} {S1 S2 : Nat → Prop} {g1 g2 : Nat} {m : Int} (h1 : NetAt S1 g1 m [] open16 W) (h2 : RefAt S2 g2 m [] [] W) (hm1 : 1 ≤ m) (hm2 : m ≤ 10000) (ha : ∀ b, S1 b → ¬ S2 b) : PairN (fun b => S1 b ∨ S2 b) g1 g2 m [] [] W :=
  ⟨S1, S2, ⟨h1, h2, Fit.nil hm1 hm2, rfl, ha⟩, fun _ h => h⟩
theorem two_new {w w1 w2 w3 w4 : World} {m1 m2 : Int} (h1 : NetAt (fun b => w.heap.size ≤ b) w.heap.size m1 [] open16 w1) (b1 : Below w.heap.size w w1) (h2 : NetAt (fun b => w1.heap.size ≤ b) w1.heap.size m2 [] open16 w2) (b2 : Below w1.heap.size w1 w2)
    (h3 : RefAt (fun b => w2.heap.size ≤ b) w2.heap.size m1 [] [] w3) (b3 : Below w2.heap.size w2 w3) (h4 : RefAt (fun b => w3.heap.size ≤ b) w3.heap.size m2 [] [] w4) (b4 : Below w3.heap.size w3 w4) (hm1 : 1 ≤ m1) (hm2 : m1 ≤ 10000) (hn1 : 1 ≤ m2) (hn2 : m2 ≤ 10000) :
    Two w w.heap.size w2.heap.size m1 w1.heap.size w3.heap.size m2 w4 := by
  have z1 := b1.size
  have z2 := b2.size
  have z3 := b3.size
  have z4 := b4.size
  refine ⟨_, _, ?_, ?_, ?_, ⟨_, _, pair_new (((h1.cut.below b2).below b3).below b4) (h3.cut.below b4) hm1 hm2 ?_⟩, ⟨_, _, pair_new ((h2.cut.below b3).below b4) h4.cut hn1 hn2 ?_⟩, ((b1.trans (b2.mono z1)).trans (b3.mono (Nat.le_trans z1 z2))).trans (b4.mono (Nat.le_trans (Nat.le_trans z1 z2) z3))⟩
  · rintro b (⟨h, _⟩ | ⟨h, _⟩) <;> omega
  · rintro b (⟨h, _⟩ | ⟨h, _⟩) <;> omega
  · rintro b (⟨h, h'⟩ | ⟨h, h'⟩) (⟨k, k'⟩ | ⟨k, k'⟩) <;> omega
  · rintro b ⟨h, h'⟩ ⟨k, k'⟩; omega
  · rintro b ⟨h, h'⟩ ⟨k, k'⟩; omega
theorem one_new {w w1 w2 : World} {m2 : Int} (h2 : NetAt (fun b => w.heap.size ≤ b) w.heap.size m2 [] open16 w1) (b1 : Below w.heap.size w w1) (h4 : RefAt (fun b => w1.heap.size ≤ b) w1.heap.size m2 [] [] w2) (b2 : Below w1.heap.size w1 w2) (hn1 : 1 ≤ m2) (hn2 : m2 ≤ 10000) :
    One w w.heap.size w1.heap.size m2 w2 := by
  have z1 := b1.size
  have z2 := b2.size
  refine ⟨_, ?_, ⟨_, _, pair_new (h2.cut.below b2) h4.cut hn1 hn2 ?_⟩, b1.trans (b2.mono z1)⟩
  · rintro b (⟨h, _⟩ | ⟨h, _⟩) <;> omega
  · rintro b ⟨h, h'⟩ ⟨k, k'⟩; omega
--WALK
/-- The six cells of a call, under one name. -/
def Six (W : World) (o : OpV) (k : Nat) (ad : Addr) (A1 : Option Addr) (c1 : Nat) (B1 : Option Addr) (d1 : Nat) : Prop :=
  W.cell? (ad.add (k * 6)) = some (.int .i64 o.1) ∧ W.cell? ⟨(ad.add (k * 6)).block, (ad.add (k * 6)).off + 1, none⟩ = some (.int .i64 o.2.1) ∧ W.cell? ⟨(ad.add (k * 6)).block, (ad.add (k * 6)).off + 2, none⟩ = some (.int .i64 o.2.2.1.1) ∧ W.cell? ⟨(ad.add (k * 6)).block, (ad.add (k * 6)).off + 3, none⟩ = some (.int .i64 o.2.2.1.2.1) ∧ W.cell? ⟨(ad.add (k * 6)).block, (ad.add (k * 6)).off + 4, none⟩ = some (.slice A1 o.2.2.1.2.2.length c1) ∧ W.cell? ⟨(ad.add (k * 6)).block, (ad.add (k * 6)).off + 5, none⟩ = some (.slice B1 o.2.2.2.length d1)
theorem OpAt.six {w W : World} {A : Option Addr} {o : OpV} {k : Nat} {ad : Addr} {A1 : Option Addr} {c1 : Nat} {B1 : Option Addr} {d1 : Nat} (h : OpAt w A o k ad A1 c1 B1 d1) (hb : Below w.heap.size w W) : Six W o k ad A1 c1 B1 d1 :=
  have h' := h.later hb
  ⟨h'.e0, h'.e1, h'.e2, h'.e3, h'.e4, h'.e5⟩
theorem Two.below {w0 : World} {g1 g2 : Nat} {m1 : Int} {g3 g4 : Nat} {m2 : Int} {W : World} (h : Two w0 g1 g2 m1 g3 g4 m2 W) : Below w0.heap.size w0 W := by
  obtain ⟨_, _, _, _, _, _, _, h⟩ := h
  exact h
theorem One.below {w0 : World} {g3 g4 : Nat} {m2 : Int} {W : World} (h : One w0 g3 g4 m2 W) : Below w0.heap.size w0 W := by
  obtain ⟨_, _, _, h⟩ := h
  exact h
set_option maxHeartbeats 4000000 in
set_option maxRecDepth 100000 in
theorem plays_two (most : Int) (A B : Option Addr) (one two : List OpV) (c d : Nat) (w : World) (h1 : SeenO w A one) (h2 : SeenO w B two) (hc : one.length ≤ c) (hd : two.length ≤ d) (hl1 : one.length ≤ 140737488351232) (hl2 : two.length ≤ 140737488351232)
    (hb1 : ∀ o ∈ one, o.2.2.2.length * 8 ≤ 140737488351232) (hb2 : ∀ o ∈ two, o.2.2.2.length * 8 ≤ 140737488351232) (hm1 : 1 ≤ most) (hm2 : most ≤ 10000) :
    Calls Try.prog 6 #[.int .i64 most, .slice A one.length c, .slice B two.length d] w (RetBool w true) := by
  have Hone := Lib.hid h1
  have Htwo := Lib.hid h2
  have HBone := Lib.hid hb1
  have HBtwo := Lib.hid hb2
  clear h1 h2 hb1 hb2
  have hp1 := fun (W : World) (a : Addr) => run_eql_pointer_nil (P := Try.prog) W 24 (some a)
  have hp2 := fun (W : World) (a : Addr) => run_neq_pointer_nil (P := Try.prog) W 53 (some a)
  have hp3 := fun (W : World) (a : Addr) => run_eql_pointer_nil (P := Try.prog) W 53 (some a)
  go_enter Try.func6, Try.ntmps6
  go_wp2_with fail
  refine (new_ok most w hm1 hm2).mono ?_
  rintro e w1 ⟨rfl, hn1, hb1⟩
  go_wp2_with fail
  refine (new_ok 3 w1 (by decide) (by decide)).mono ?_
  rintro e w2 ⟨rfl, hn2, hb2⟩
  go_wp2_with fail
  refine (refnew_ok most w2 hm1 hm2).mono ?_
  rintro e w3 ⟨rfl, hr3, hb3⟩
  go_wp2_with fail
  refine (refnew_ok 3 w3 (by decide) (by decide)).mono ?_
  rintro e w4 ⟨rfl, hr4, hb4⟩
  have HJ0 := Lib.hid (two_new hn1 hb1 hn2 hb2 (hr3.mono (fun b _ hb => Nat.le_of_eq hb.symm)) hb3 (hr4.mono (fun b _ hb => Nat.le_of_eq hb.symm)) hb4 hm1 hm2 (by decide) (by decide))
  obtain ⟨g3, hg3⟩ : ∃ g3, w1.heap.size = g3 := ⟨_, rfl⟩
  obtain ⟨g2, hg2⟩ : ∃ g2, w2.heap.size = g2 := ⟨_, rfl⟩
  obtain ⟨g4, hg4⟩ : ∃ g4, w3.heap.size = g4 := ⟨_, rfl⟩
  rw [hg3, hg2, hg4] at HJ0
  rw [hg3, hg2, hg4]
  clear hn1 hb1 hn2 hb2 hr3 hb3 hr4 hb4 hg3 hg2 hg4
  go_wp2_with (first
    | (go_at_call 9; refine (num_any _ _).mono ?_; rintro e w' ⟨rfl, rfl⟩)
    | (go_at_call 10; refine (knows_any _).mono ?_; rintro e w5 ⟨rfl, hb5⟩; have HJ5 := Lib.hid (HJ0.out.later hb5); clear hb5)
    | fail)
  go_loopw [13] (fun s wr => ∃ k : Nat, s = .int .i64 (k : Int) ∧ k ≤ 140737488351232 ∧ (k ≤ one.length ∨ k ≤ two.length) ∧ Two w w.heap.size g2 most g3 g4 3 wr) (fun s _ => (max one.length two.length) - (intOf s).toNat)
  case atStart => exact ⟨0, rfl, Nat.zero_le _, .inl (Nat.zero_le _), HJ5.out⟩
  case round =>
    obtain ⟨k, rfl, hk, hko, hj⟩ := hrel
    have HJ := Lib.hid hj
    clear hj HJ5 HJ0
    have hk0 : (0 : Int) ≤ (k : Int) := by omega
    by_cases hk1 : k < one.length
    · have hd1 : decide (k < one.length) = true := by simpa using hk1
      obtain ⟨ad1, A1, c1, B1, d1, hop1⟩ := Hone.out.at hk1
      obtain ⟨o1, ho1⟩ : ∃ o1, one[k] = o1 := ⟨_, rfl⟩
      have HL1 : Hid (o1.2.2.2.length * 8 ≤ 140737488351232) := Lib.hid (by have := HBone.out one[k] (List.getElem_mem hk1); rw [ho1] at this; omega)
      rw [ho1] at hop1
      obtain rfl := hop1.adr
      have HOP1 := Lib.hid hop1
      have hki1 : (k : Int) < (one.length : Int) := by omega
      clear hop1 ho1
      by_cases hk2 : k < two.length
      · have hd2 : decide (k < two.length) = true := by simpa using hk2
        obtain ⟨ad2, A2, c2, B2, d2, hop2⟩ := Htwo.out.at hk2
        obtain ⟨o2, ho2⟩ : ∃ o2, two[k] = o2 := ⟨_, rfl⟩
        have HL2 : Hid (o2.2.2.2.length * 8 ≤ 140737488351232) := Lib.hid (by have := HBtwo.out two[k] (List.getElem_mem hk2); rw [ho2] at this; omega)
        rw [ho2] at hop2
        obtain rfl := hop2.adr
        have HOP2 := Lib.hid hop2
        have hki2 : (k : Int) < (two.length : Int) := by omega
        clear hop2 ho2
        obtain ⟨p10, p11, p12, p13, p14, p15⟩ := HOP1.out.six HJ.out.below
        go_wp2_with (first
          | (go_at_call_of 23 (Value.pointer (some ⟨w.heap.size, 0, none⟩)); refine (HJ.out.step HOP1.out HL1.out).mono ?_; rintro e w6 ⟨rfl, hj6⟩; have HJ6 := Lib.hid hj6.swap; obtain ⟨q20, q21, q22, q23, q24, q25⟩ := HOP2.out.six hj6.below; clear hj6)
          | (go_at_call_of 23 (Value.pointer (some ⟨g3, 0, none⟩)); refine (HJ6.out.step HOP2.out HL2.out).mono ?_; rintro e w7 ⟨rfl, hj7⟩; have HJ7 := Lib.hid hj7.swap; clear hj7)
          | fail)
        go_roundw
        case rel => exact ⟨k + 1, by go_num, by omega, by omega, HJ7.out⟩
        case measure => simp [intOf]; omega
      · have hd2 : decide (k < two.length) = false := by simpa using hk2
        have hki2 : ¬ (k : Int) < (two.length : Int) := by omega
        obtain ⟨p10, p11, p12, p13, p14, p15⟩ := HOP1.out.six HJ.out.below
        go_wp2_with (first
          | (go_at_call 23; refine (HJ.out.step HOP1.out HL1.out).mono ?_; rintro e w6 ⟨rfl, hj6⟩; have HJ6 := Lib.hid hj6; clear hj6)
          | fail)
        go_roundw
        case rel => exact ⟨k + 1, by go_num, by omega, by omega, HJ6.out⟩
        case measure => simp [intOf]; omega
    · have hd1 : decide (k < one.length) = false := by simpa using hk1
      have hki1 : ¬ (k : Int) < (one.length : Int) := by omega
      by_cases hk2 : k < two.length
      · have hd2 : decide (k < two.length) = true := by simpa using hk2
        obtain ⟨ad2, A2, c2, B2, d2, hop2⟩ := Htwo.out.at hk2
        obtain ⟨o2, ho2⟩ : ∃ o2, two[k] = o2 := ⟨_, rfl⟩
        have HL2 : Hid (o2.2.2.2.length * 8 ≤ 140737488351232) := Lib.hid (by have := HBtwo.out two[k] (List.getElem_mem hk2); rw [ho2] at this; omega)
        rw [ho2] at hop2
        obtain rfl := hop2.adr
        have HOP2 := Lib.hid hop2
        have hki2 : (k : Int) < (two.length : Int) := by omega
        clear hop2 ho2
        obtain ⟨p20, p21, p22, p23, p24, p25⟩ := HOP2.out.six HJ.out.below
        go_wp2_with (first
          | (go_at_call 23; refine (HJ.out.swap.step HOP2.out HL2.out).mono ?_; rintro e w6 ⟨rfl, hj6⟩; have HJ6 := Lib.hid hj6.swap; clear hj6)
          | fail)
        go_roundw
        case rel => exact ⟨k + 1, by go_num, by omega, by omega, HJ6.out⟩
        case measure => simp [intOf]; omega
      · have hd2 : decide (k < two.length) = false := by simpa using hk2
        have hki2 : ¬ (k : Int) < (two.length : Int) := by omega
        go_wp2_with fail
        go_ret
        exact ⟨rfl, HJ.out.below⟩
set_option maxHeartbeats 4000000 in
set_option maxRecDepth 100000 in
theorem plays_one (most : Int) (A B : Option Addr) (one two : List OpV) (c d : Nat) (w : World) (h1 : SeenO w A one) (h2 : SeenO w B two) (hc : one.length ≤ c) (hd : two.length ≤ d) (hl1 : one.length ≤ 140737488351232) (hl2 : two.length ≤ 140737488351232)
    (hb1 : ∀ o ∈ one, o.2.2.2.length * 8 ≤ 140737488351232) (hb2 : ∀ o ∈ two, o.2.2.2.length * 8 ≤ 140737488351232) (hm : most < 1 ∨ 10000 < most) :
    Calls Try.prog 6 #[.int .i64 most, .slice A one.length c, .slice B two.length d] w (RetBool w true) := by
  have Hone := Lib.hid h1
  have Htwo := Lib.hid h2
  have HBone := Lib.hid hb1
  have HBtwo := Lib.hid hb2
  clear h1 h2 hb1 hb2
  have hp1 := fun (W : World) (a : Addr) => run_eql_pointer_nil (P := Try.prog) W 24 (some a)
  have hp2 := fun (W : World) (a : Addr) => run_neq_pointer_nil (P := Try.prog) W 53 (some a)
  have hp3 := fun (W : World) (a : Addr) => run_eql_pointer_nil (P := Try.prog) W 53 (some a)
  go_enter Try.func6, Try.ntmps6
  go_wp2_with fail
  refine (new_arg most w hm).mono ?_
  rintro e _ ⟨rfl, rfl⟩
  go_wp2_with fail
  refine (new_ok 3 w (by decide) (by decide)).mono ?_
  rintro e w2 ⟨rfl, hn2, hb2⟩
  go_wp2_with fail
  refine (refnew_none most w2 hm).mono ?_
  rintro e _ ⟨rfl, rfl⟩
  go_wp2_with fail
  refine (refnew_ok 3 w2 (by decide) (by decide)).mono ?_
  rintro e w4 ⟨rfl, hr4, hb4⟩
  have HJ0 := Lib.hid (one_new hn2 hb2 (hr4.mono (fun b _ hb => Nat.le_of_eq hb.symm)) hb4 (by decide) (by decide))
  obtain ⟨g4, hg4⟩ : ∃ g4, w2.heap.size = g4 := ⟨_, rfl⟩
  rw [hg4] at HJ0
  rw [hg4]
  clear hn2 hb2 hr4 hb4 hg4
  go_wp2_with (first
    | (go_at_call 9; refine (num_any _ _).mono ?_; rintro e w' ⟨rfl, rfl⟩)
    | (go_at_call 10; refine (knows_any _).mono ?_; rintro e w5 ⟨rfl, hb5⟩; have HJ5 := Lib.hid (HJ0.out.later hb5); clear hb5)
    | fail)
  go_loopw [13] (fun s wr => ∃ k : Nat, s = .int .i64 (k : Int) ∧ k ≤ 140737488351232 ∧ (k ≤ one.length ∨ k ≤ two.length) ∧ One w w.heap.size g4 3 wr) (fun s _ => (max one.length two.length) - (intOf s).toNat)
  case atStart => exact ⟨0, rfl, Nat.zero_le _, .inl (Nat.zero_le _), HJ5.out⟩
  case round =>
    obtain ⟨k, rfl, hk, hko, hj⟩ := hrel
    have HJ := Lib.hid hj
    clear hj HJ5 HJ0
    have hk0 : (0 : Int) ≤ (k : Int) := by omega
    by_cases hk1 : k < one.length
    · have hd1 : decide (k < one.length) = true := by simpa using hk1
      have hki1 : (k : Int) < (one.length : Int) := by omega
      by_cases hk2 : k < two.length
      · have hd2 : decide (k < two.length) = true := by simpa using hk2
        obtain ⟨ad2, A2, c2, B2, d2, hop2⟩ := Htwo.out.at hk2
        obtain ⟨o2, ho2⟩ : ∃ o2, two[k] = o2 := ⟨_, rfl⟩
        have HL2 : Hid (o2.2.2.2.length * 8 ≤ 140737488351232) := Lib.hid (by have := HBtwo.out two[k] (List.getElem_mem hk2); rw [ho2] at this; omega)
        rw [ho2] at hop2
        obtain rfl := hop2.adr
        have HOP2 := Lib.hid hop2
        have hki2 : (k : Int) < (two.length : Int) := by omega
        clear hop2 ho2
        obtain ⟨p20, p21, p22, p23, p24, p25⟩ := HOP2.out.six HJ.out.below
        go_wp2_with (first
          | (go_at_call 23; refine (HJ.out.step HOP2.out HL2.out).mono ?_; rintro e w6 ⟨rfl, hj6⟩; have HJ6 := Lib.hid hj6; clear hj6)
          | fail)
        go_roundw
        case rel => exact ⟨k + 1, by go_num, by omega, by omega, HJ6.out⟩
        case measure => simp [intOf]; omega
      · have hd2 : decide (k < two.length) = false := by simpa using hk2
        have hki2 : ¬ (k : Int) < (two.length : Int) := by omega
        go_wp2_with fail
        go_roundw
        case rel => exact ⟨k + 1, by go_num, by omega, by omega, HJ.out⟩
        case measure => simp [intOf]; omega
    · have hd1 : decide (k < one.length) = false := by simpa using hk1
      have hki1 : ¬ (k : Int) < (one.length : Int) := by omega
      by_cases hk2 : k < two.length
      · have hd2 : decide (k < two.length) = true := by simpa using hk2
        obtain ⟨ad2, A2, c2, B2, d2, hop2⟩ := Htwo.out.at hk2
        obtain ⟨o2, ho2⟩ : ∃ o2, two[k] = o2 := ⟨_, rfl⟩
        have HL2 : Hid (o2.2.2.2.length * 8 ≤ 140737488351232) := Lib.hid (by have := HBtwo.out two[k] (List.getElem_mem hk2); rw [ho2] at this; omega)
        rw [ho2] at hop2
        obtain rfl := hop2.adr
        have HOP2 := Lib.hid hop2
        have hki2 : (k : Int) < (two.length : Int) := by omega
        clear hop2 ho2
        obtain ⟨p20, p21, p22, p23, p24, p25⟩ := HOP2.out.six HJ.out.below
        go_wp2_with (first
          | (go_at_call 23; refine (HJ.out.step HOP2.out HL2.out).mono ?_; rintro e w6 ⟨rfl, hj6⟩; have HJ6 := Lib.hid hj6; clear hj6)
          | fail)
        go_roundw
        case rel => exact ⟨k + 1, by go_num, by omega, by omega, HJ6.out⟩
        case measure => simp [intOf]; omega
      · have hd2 : decide (k < two.length) = false := by simpa using hk2
        have hki2 : ¬ (k : Int) < (two.length : Int) := by omega
        go_wp2_with fail
        go_ret
        exact ⟨rfl, HJ.out.below⟩
end Go.Proofs.Ytfhmdphcgcmaeaa
