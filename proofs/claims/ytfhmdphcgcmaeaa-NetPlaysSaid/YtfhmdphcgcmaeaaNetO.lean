/-
  NetOrder: the walk.
-/
import Derived.Test.YtfhmdphcgcmaeaaNetL2
import Derived.Test.YtfhmdphcgcmaeaaQueue
import Derived.Deep.LoopGhost
import Derived.Deep.CutBlock
import Derived.Deep.DeepCutAuto
import Derived.Deep.CutRange
set_option linter.unusedVariables false
set_option linter.unusedSimpArgs false
namespace Go.Proofs.Ytfhmdphcgcmaeaa
open Go.RowKit

/-- A letter as it was handed in. -/
def ltSee (w : World) (l : Lt) (cs : List Value) : Prop :=
  ∃ A c, cs = [.int .i64 l.1, .int .i64 l.2.1, .slice A l.2.2.length c] ∧ l.2.2.length ≤ c ∧ l.2.2.length ≤ 140737488351232 ∧ Sees w A (u8s l.2.2)
/-- A slice of letters that was handed in. -/
def SeenL (w : World) (A : Option Addr) (ls : List Lt) : Prop := ∃ cells, Sees w A cells ∧ Recs ltSee 3 w ls cells
theorem SeenL.at {w : World} {A : Option Addr} {ls : List Lt} (h : SeenL w A ls) {k : Nat} (hk : k < ls.length) :
    ∃ ad A1 c1, A = some ad ∧ w.cell? (ad.add (k * 3)) = some (.int .i64 ls[k].1) ∧ w.cell? ⟨(ad.add (k * 3)).block, (ad.add (k * 3)).off + 1, none⟩ = some (.int .i64 ls[k].2.1) ∧ w.cell? ⟨(ad.add (k * 3)).block, (ad.add (k * 3)).off + 2, none⟩ = some (.slice A1 ls[k].2.2.length c1) ∧
      ls[k].2.2.length ≤ c1 ∧ ls[k].2.2.length ≤ 140737488351232 ∧ Sees w A1 (u8s ls[k].2.2) := by
  obtain ⟨cells, hs, hr⟩ := h
  obtain ⟨cs, hcl, ⟨A1, c1, rfl, h1, h2, h3⟩, hcs⟩ := hr.get (List.getElem?_eq_getElem hk)
  obtain ⟨ad, rfl, h0⟩ := hs (k * 3) _ (hcs 0 _ rfl)
  refine ⟨ad, A1, c1, rfl, h0, ?_, ?_, h1, h2, h3⟩
  · obtain ⟨ad', e, hc⟩ := hs (k * 3 + 1) _ (hcs 1 _ rfl)
    cases e
    rw [← add_pos _ 1 (by omega), add_at]
    exact hc
  · obtain ⟨ad', e, hc⟩ := hs (k * 3 + 2) _ (hcs 2 _ rfl)
    cases e
    rw [← add_pos _ 2 (by omega), add_at]
    exact hc
/-- Blocks of the kinds that a net is made of. -/
def Kind (W : World) (b : Nat) : Prop := ∃ (cs : Array Value) (t : TypeId), W.heap[b]? = some (Obj.cells cs t (0, 0)) ∧ (t = 61 ∨ t = 33 ∨ t = 5)
theorem NetAt.kind {S : Nat → Prop} {g : Nat} {most : Int} {ls : List Lt} {wl : List Bool} {W : World} (h : NetAt S g most ls wl W) : NetAt (fun b => S b ∧ Kind W b) g most ls wl W := by
  obtain ⟨A, c, cells, h1, h2, h3, h4, h5, h6⟩ := h
  have hk : ∀ {b s n : Nat} {e : TypeId} {v : Value} {xs : List Value}, W.ownsRow b e s v n xs → ∀ k, v.ownBlock = some k → ∃ cs, W.heap[k]? = some (Obj.cells cs e (0, 0)) := by
    intro b s n e v xs ho k hk
    rcases ho.2 with ⟨rfl, _⟩ | ⟨g, cap, cur, rfl, _, hh, _⟩
    · simp [Value.ownBlock] at hk
    · obtain rfl : g = k := by simpa [Value.ownBlock] using hk
      exact ⟨cur, hh⟩
  refine ⟨A, c, cells, h1, h2, ⟨h3, _, _, h1, .inl rfl⟩, h4, fun b hb => ⟨h5 b hb, ?_⟩, h6.imp fun j l cs _ hl => ?_⟩
  · obtain ⟨cs, hc⟩ := hk h4 b hb
    exact ⟨cs, _, hc, .inr (.inl rfl)⟩
  · obtain ⟨A1, c1, e, ho, hs⟩ := hl
    refine ⟨A1, c1, e, ho, fun b hb => ⟨hs b hb, ?_⟩⟩
    obtain ⟨cs, hc⟩ := hk ho b hb
    exact ⟨cs, _, hc, .inr (.inr rfl)⟩
/-- Where a net may lie: behind B, in blocks of its kinds. -/
abbrev NetS (B : Nat) (W : World) (b : Nat) : Prop := From B b ∧ Kind W b
theorem NetS.plus {B : Nat} {W : World} (h : B ≤ W.heap.size) : ∀ b, Plus (NetS B W) W b → From B b := fun b hb => hb.elim (fun h => h.1) (fun h2 => Nat.le_trans h h2)
theorem ownsQ.outside {W W' : World} {base n : Nat} {v : Value} {xs : List Value} {B : Nat} (h : ownsQ W base 35 3 v n xs) (ho : Outside (NetS B W) W W') : ownsQ W' base 35 3 v n xs :=
  h.same fun b cs hc => ho.block b (Array.getElem?_eq_some_iff.1 hc).1 (fun hk => by
    obtain ⟨cs', t, h1, h2⟩ := hk.2
    rw [hc] at h1
    injection h1 with h1
    injection h1 with _ ht
    subst ht
    revert h2
    decide)
theorem NetAt.other {S : Nat → Prop} {g : Nat} {most : Int} {ls : List Lt} {wl : List Bool} {W W' : World} (h : NetAt S g most ls wl W) {v : Value} {base n : Nat} {xs : List Value} (hq : ownsQ W base 35 3 v n xs) (hg : W.grownBy W' v.ownBlock) : NetAt S g most ls wl W' := by
  refine (h.kind.keep fun b hb hs => hg.block b hb fun e => ?_).mono (fun b hb => hb.1)
  obtain ⟨cs', t, h1, h2⟩ := hs.2
  rcases hq.2 with ⟨rfl, _⟩ | ⟨g', o, cap, cur, rfl, _, hh, _⟩
  · simp [Value.ownBlock] at e
  · have : b = g' := by simpa [Value.ownBlock] using e
    subst this
    rw [hh] at h1
    injection h1 with h1
    injection h1 with _ ht
    subst ht
    revert h2
    decide
/-- What holds of the net and of the list of what is wanted. -/
def OrdInv (w0 : World) (g : Nat) (ls : List Lt) (v : Value) (W : World) : Prop :=
  NetAt (From w0.heap.size) g 10000 ls open16 W ∧ Fit 10000 ls ∧ Below w0.heap.size w0 W ∧ ∃ cells, ownsQ W w0.heap.size 35 3 v ls.length cells ∧ Recs (fun _ => ltSee w0) 3 w0 ls cells
theorem infoRefLetter : (Try.prog.info? 35).map (fun i => (i.zero, i.size, i.bytes)) = some (some (.agg #[.int .i64 0, .int .i64 0, .slice none 0 0]), 3, 40) := by kernel_rfl
theorem sendE_ok {most : Int} {n : Nat} {l : Lt} (h : sendE most n l = 0) : rightB l = true ∧ (n : Int) < most := by
  unfold sendE at h
  split at h
  · split at h
    · cases h
    · exact ⟨by assumption, by omega⟩
  · cases h
theorem Fit.snoc {most : Int} {ls : List Lt} {l : Lt} (h : Fit most ls) (hs : sendE most ls.length l = 0) : Fit most (ls ++ [l]) :=
  ⟨h.lo, h.hi, by have := (sendE_ok hs).2; simp; omega, fun x hx => by
    rcases List.mem_append.1 hx with hx | hx
    · exact h.all x hx
    · rw [List.mem_singleton.1 hx]; exact (sendE_ok hs).1⟩
/-- What was sent is wanted. -/
theorem OrdInv.sent {w : World} {g : Nat} {ls : List Lt} {v v' : Value} {wr w3 w4 w5 : World} {l : Lt} {A1 : Option Addr} {c1 : Nat} {cells : List Value} (hf : Fit 10000 ls) (hbr : Below w.heap.size w wr)
    (hr : Recs (fun _ => ltSee w) 3 w ls cells) (hc : l.2.2.length ≤ c1) (hl : l.2.2.length ≤ 140737488351232) (hS : Sees w A1 (u8s l.2.2)) (hb3 : Below wr.heap.size wr w3) (hs : sendE 10000 ls.length l = 0)
    (hn4 : NetAt (Plus (NetS w.heap.size w3) w3) g 10000 (ls ++ [l]) open16 w4) (ho4 : Outside (NetS w.heap.size w3) w3 w4)
    (hq4 : ownsQ (w4.alloc (.cells #[.int .i64 l.1, .int .i64 l.2.1, .slice A1 l.2.2.length c1] 35)) w.heap.size 35 3 v ls.length cells)
    (hq5 : ownsQ w5 w.heap.size 35 3 v' (ls.length + 1) (cells ++ [.int .i64 l.1, .int .i64 l.2.1, .slice A1 l.2.2.length c1])) (hg5 : (w4.alloc (.cells #[.int .i64 l.1, .int .i64 l.2.1, .slice A1 l.2.2.length c1] 35)).grownBy w5 v.ownBlock) :
    OrdInv w g (ls ++ [l]) v' w5 := by
  have hB3 := below_step hbr hbr.size hb3
  have hB4 : Below w.heap.size w w4 := hB3.trans (ho4.below (fun b hb => hb.1) hB3.size)
  have hB4a := hB4.alloc hB4.size (.cells #[.int .i64 l.1, .int .i64 l.2.1, .slice A1 l.2.2.length c1] 35)
  refine ⟨((hn4.mono (NetS.plus hB3.size)).below ((Below.refl _ _).alloc (Nat.le_refl _) _)).other hq4 hg5, hf.snoc hs, hB4a.grown hg5 hB4a.size (fun k hk => ?_), _, by simpa using hq5, hr.snoc rfl ⟨A1, c1, rfl, hc, hl, hS⟩⟩
  rcases hq4.2 with ⟨rfl, _⟩ | ⟨g', o, cap, cur, rfl, h1, _⟩
  · simp [Value.ownBlock] at hk
  · have : g' = k := by simpa [Value.ownBlock] using hk
    omega
theorem OrdInv.form {w : World} {g : Nat} {ls : List Lt} {v : Value} {W : World} (h : OrdInv w g ls v W) : ∃ A c, v = .slice A ls.length c := by
  obtain ⟨_, _, _, cells, hq, _⟩ := h
  rcases hq.2 with ⟨rfl, h0⟩ | ⟨g, o, cap, cur, rfl, _⟩
  · exact ⟨none, 0, by rw [h0]⟩
  · exact ⟨_, _, rfl⟩
theorem take_first {m : Int} {l : Lt} {rest : List Lt} (hf : Fit m (l :: rest)) : takeE open16 (l :: rest) 0 = 0 ∧ takeL open16 (l :: rest) 0 = l ∧ takeN open16 (l :: rest) 0 = rest := by
  have ha : atE 0 (l :: rest).length = 0 := if_neg (by simp)
  have hl : lookL (l :: rest) 0 = l := by
    have := lookL_some (ls := l :: rest) (k := 0) (by simp)
    simpa using this
  have hr := hf.all l List.mem_cons_self
  have ho : openL open16 l = true := by
    unfold openL openB
    rw [open16_getD, open16_getD]
    simp only [beq_self_eq_true, Bool.and_true]
    exact hr
  have he : takeE open16 (l :: rest) 0 = 0 := by unfold takeE; rw [if_pos ha, hl, if_pos ho]
  refine ⟨he, by unfold takeL; rw [if_pos he, hl], by unfold takeN; rw [if_pos he]; rfl⟩
/-- What is known where the first that is wanted is taken. -/
theorem OrdInv.head {w : World} {g : Nat} {l : Lt} {rest : List Lt} {v : Value} {W : World} (h : OrdInv w g (l :: rest) v W) :
    ∃ g5 o5 cap5 A1 c1 X, v = .slice (some ⟨g5, o5, none⟩) (rest.length + 1) cap5 ∧ rest.length + 1 ≤ cap5 ∧ cap5 ≤ maxLen ∧ Sees w A1 (u8s l.2.2) ∧
      (∀ W', Outside (NetS w.heap.size W) W W' → W'.cell? ⟨g5, o5, none⟩ = some (.int .i64 l.1) ∧ W'.cell? ⟨g5, o5 + 1, none⟩ = some (.int .i64 l.2.1) ∧ W'.cell? ⟨g5, o5 + 2, none⟩ = some (.slice A1 l.2.2.length c1)) ∧
      (∀ W' : World, (Instr.slice 22 (.slice (some ⟨g5, o5, none⟩) (rest.length + 1) cap5) (some (.int .i64 1)) none none).run Try.prog W' = .ok (.slice (some X) rest.length (cap5 - 1)) W') ∧
      (∀ w6 W7, NetAt (Plus (NetS w.heap.size W) W) g 10000 rest open16 w6 → Outside (NetS w.heap.size W) W w6 → Below w6.heap.size w6 W7 → OrdInv w g rest (.slice (some X) rest.length (cap5 - 1)) W7) := by
  obtain ⟨hn, hf, hb, cells, hq, hr⟩ := h
  obtain ⟨g5, o5, cap5, rfl, h1, h2, h3, _, h4⟩ := hq.some_of (by simp)
  obtain ⟨cs, hcl, ⟨A1, c1, rfl, _, _, hS⟩, hcs⟩ := hr.get (j := 0) (x := l) rfl
  obtain ⟨X, hX, hqX⟩ := hq.tail (P := Try.prog) 22 Try.underlying22 (by kernel_rfl) (by simp)
  refine ⟨g5, o5, cap5, A1, c1, X, rfl, h1, h2, hS, fun W' ho => ?_, hX, fun w6 W7 hn6 ho6 hb7 => ?_⟩
  · have hq' := hq.outside ho
    obtain ⟨g5', o5', cap5', e, _, _, _, _, h4'⟩ := hq'.some_of (by simp)
    cases e
    refine ⟨?_, ?_, ?_⟩
    · have := h4' _ _ (hcs 0 _ rfl); simpa using this
    · have := h4' _ _ (hcs 1 _ rfl); simpa using this
    · have := h4' _ _ (hcs 2 _ rfl); simpa using this
  · have hb6 := hb.trans (ho6.below (fun b hb => hb.1) hb.size)
    refine ⟨(hn6.mono (NetS.plus hb.size)).below hb7, ⟨hf.lo, hf.hi, by have := hf.len; simp at this; omega, fun x hx => hf.all x (List.mem_cons_of_mem _ hx)⟩, below_step hb6 hb6.size hb7, cells.drop 3, ?_, ?_⟩
    · exact (hqX.outside ho6).keep hb7
    · have := hr.drop 1
      simpa using this
set_option maxHeartbeats 4000000 in
set_option maxRecDepth 100000 in
theorem netOrder_any (A : Option Addr) (L : List Lt) (c : Nat) (B : Option Addr) (ts : List Bool) (d : Nat) (w : World) (hL : SeenL w A L) (hT : Sees w B (ts.map Value.bool)) (hlc : L.length ≤ c) (hl : L.length ≤ 140737488351232) (htd : ts.length ≤ d) (ht : ts.length ≤ 140737488351232) :
    Calls Try.prog 3 #[.slice A L.length c, .slice B ts.length d] w (RetBool w true) := by
  have HL := Lib.hid hL
  have HT := Lib.hid hT
  clear hL hT
  have hpn := fun (W : World) (a : Addr) => run_eql_pointer_nil (P := Try.prog) W 24 (some a)
  go_enter Try.func3, Try.ntmps3
  go_wp2_with fail
  refine (new_ok 10000 w (by decide) (by decide)).mono ?_
  rintro e w1 ⟨rfl, hn1, hb1⟩
  have hz1 := hb1.size
  have HN1 := Lib.hid hn1
  have HB1 := Lib.hid hb1
  clear hn1 hb1
  go_wp2_with (first
    | (go_at_call 9; refine (num_any _ _).mono ?_; rintro e w' ⟨rfl, rfl⟩)
    | fail)
  refine (knows_any _).mono ?_
  rintro e w2 ⟨rfl, hb2⟩
  have hB2 := below_step HB1.out hz1 hb2
  have J2 : OrdInv w w.heap.size [] (.slice none 0 0) w2 := ⟨(HN1.out.below hb2), Fit.nil (by decide) (by decide), hB2, [], ownsQ_nil _ _ _ _, Recs.nil⟩
  have HJ := Lib.hid J2
  clear J2 hb2 hB2 HN1 HB1 hz1
  go_wp2_with fail
  go_loopg [7, 8] (max L.length ts.length) (fun gk v i wr => ∃ (k : Nat) (ls : List Lt), i = .int .i64 (k : Int) ∧ gk = max L.length ts.length - k ∧ OrdInv w w.heap.size ls v wr)
  case atStart => exact ⟨0, [], rfl, rfl, HJ.out⟩
  case round =>
    obtain ⟨k, ls, rfl, hgk, hn, hf, hbr, cells, hq, hrc⟩ := hrel
    have HGK := Lib.hid hgk
    have HN := Lib.hid hn
    have HF := Lib.hid hf
    have HQ := Lib.hid hq
    have HR := Lib.hid hrc
    clear hgk hn hf hq hrc HJ
    by_cases hkl : k < L.length
    · obtain ⟨ad, A1, c1, rfl, r0, r1, r2, hc1, hl1, hS1⟩ := HL.out.at hkl
      have hblk := World.block_lt_of_cell? w _ r0
      have hblk' : (ad.add (k * 3)).block < w.heap.size := hblk
      have q0 := (hbr.cell hblk).trans r0
      have q1 := (hbr.cell (p := ⟨(ad.add (k * 3)).block, (ad.add (k * 3)).off + 1, none⟩) hblk').trans r1
      have q2 := (hbr.cell (p := ⟨(ad.add (k * 3)).block, (ad.add (k * 3)).off + 2, none⟩) hblk').trans r2
      obtain ⟨l, hll⟩ : ∃ l, L[k] = l := ⟨_, rfl⟩
      rw [hll] at r0 r1 r2 q0 q1 q2 hc1 hl1 hS1
      have HLL := Lib.hid hll
      have HS1 := Lib.hid hS1
      have R0 := Lib.hid r0
      have R1 := Lib.hid r1
      have R2 := Lib.hid r2
      have hki : (k : Int) < (L.length : Int) := by omega
      have HB := Lib.hid hbr
      clear hll hS1 r0 r1 r2 hblk hbr
      by_cases hs : sendE 10000 ls.length l = 0
      · have HS := Lib.hid hs
        clear hs
        have HBLK := Lib.hid hblk'
        clear hblk'
        go_upto_region 10 with (first
          | (go_at_call 12; refine (lawOwn_any l.1 l.2.1 A1 l.2.2 c1 _ hc1 hl1 (HS1.out.below (HB.out.mono (Nat.le_refl _)))).mono ?_; rintro e w3 ⟨A3, c3, rfl, hown3, hb3⟩; have so3 := sees_own' hown3; have hB3 := below_step HB.out HB.out.size hb3; have SO3 := Lib.hid so3.2; clear so3 hown3)
          | (go_at_call 11; refine (send_any l.1 l.2.1 A3 l.2.2 c3 _ ((HN.out.below hb3).kind) (by decide) (by decide) HF.out.len SO3.out.1 (by omega) SO3.out.2.2).mono ?_; rintro e w4 ⟨rfl, hn4, ho4⟩; have e4 : sendE 10000 ls.length (l.1, l.2.1, l.2.2) = 0 := HS.out; rw [e4] at hn4 ⊢; have hB4 : Below w.heap.size w w4 := hB3.trans (ho4.below (fun b hb => hb.1) hB3.size); have HN4 := Lib.hid hn4; have HO4 := Lib.hid ho4; have p0 := (hB4.cell HBLK.out).trans R0.out; have p1 := (hB4.cell (p := ⟨(ad.add (k * 3)).block, (ad.add (k * 3)).off + 1, none⟩) HBLK.out).trans R1.out; have p2 := (hB4.cell (p := ⟨(ad.add (k * 3)).block, (ad.add (k * 3)).off + 2, none⟩) HBLK.out).trans R2.out; have hq4 := ((HQ.out.keep hb3).outside ho4).keep ((Below.refl w4.heap.size w4).alloc (Nat.le_refl _) (.cells #[.int .i64 l.1, .int .i64 l.2.1, .slice A1 l.2.2.length c1] 35)); have HQ4 := Lib.hid hq4; have hln : ls.length ≤ 10000 := (by have := HF.out.len; omega); clear hn4 ho4 e4 hq4)
          | (go_at_call 9; refine (num_any _ _).mono ?_; rintro e w' ⟨rfl, rfl⟩)
          | (at_builtin; refine wpList_append_q rfl (.tmp 55) (.tmp 60) 22 rfl w.heap.size 35 (.agg #[.int .i64 0, .int .i64 0, .slice none 0 0]) 3 40 Try.underlying22 infoRefLetter rfl (by decide) _ ls.length cells rfl HQ4.out ⟨w4.heap.size, 0, none⟩ 1 1 [.int .i64 l.1, .int .i64 l.2.1, .slice A1 l.2.2.length c1] rfl rfl (sees_new _ _ _) (by simp [Value.oneCell']) (by decide) (by simp only [maxLen]; omega) (by omega) (by simp; have := hB4.size; omega) ?_; intro v5 w5 hq5 hg5; have J5 := Lib.hid (OrdInv.sent HF.out HB.out HR.out hc1 hl1 HS1.out hb3 HS.out HN4.out HO4.out HQ4.out hq5 hg5); clear hq5 hg5)
          | fail)
        obtain ⟨ls5, hls5⟩ : ∃ ls5, ls ++ [l] = ls5 := ⟨_, rfl⟩
        rw [hls5] at J5
        clear hls5
        by_cases hkt : k < ts.length
        · obtain ⟨bd, rfl, hbc⟩ := HT.out k (.bool ts[k]) (by rw [List.getElem?_map, List.getElem?_eq_getElem hkt]; rfl)
          have hbk := (J5.out.2.2.1.cell (World.block_lt_of_cell? w _ hbc)).trans hbc
          have hkti : (k : Int) < (ts.length : Int) := by omega
          clear hbc
          cases htk : ts[k] with
          | false =>
            rw [htk] at hbk
            clear htk
            go_wp2
            go_roundg (max L.length ts.length - (k + 1))
            case measure => have := HGK.out; omega
            case rel => exact ⟨k + 1, _, by go_num, rfl, J5.out⟩
          | true =>
            rw [htk] at hbk
            clear htk
            cases ls5 with
            | nil =>
              obtain ⟨A5, c5, e5⟩ := J5.out.form
              subst e5
              go_wp2
              go_roundg (max L.length ts.length - (k + 1))
              case measure => have := HGK.out; omega
              case rel => exact ⟨k + 1, _, by go_num, rfl, J5.out⟩
            | cons l5 rest =>
              obtain ⟨g5, o5, cap5, A5, c5, X, rfl, hc5, hm5, hS5, hcell5, hX, hnext⟩ := J5.out.head
              have hT5 := take_any 0 w5 J5.out.1.kind J5.out.2.1
              obtain ⟨te, tl, tn⟩ := take_first J5.out.2.1
              rw [te, tl, tn] at hT5
              have HT5 := Lib.hid hT5
              have HB5 := Lib.hid J5.out.2.2.1
              have HS5 := Lib.hid hS5
              have HC5 := Lib.hid hcell5
              have HNX := Lib.hid hnext
              clear hT5 te tl tn hS5 hcell5 hnext
              go_upto_region 12 with (first
                | (go_at_call 13; refine HT5.out.mono ?_; rintro e w6 ⟨⟨A6, c6, rfl, hown6⟩, hn6, ho6⟩)
                | fail)
              obtain ⟨W6, hW6⟩ : ∃ W6, w6.alloc (.cells #[.int .i64 l5.1, .int .i64 l5.2.1, .slice A6 l5.2.2.length c6] 33) = W6 := ⟨_, rfl⟩
              rw [hW6]
              have hb6 : Below w6.heap.size w6 W6 := by rw [← hW6]; exact (Below.refl _ _).alloc (Nat.le_refl _) _
              have x6 : W6.heap[w6.heap.size]? = some (.cells #[.int .i64 l5.1, .int .i64 l5.2.1, .slice A6 l5.2.2.length c6] 33 (0, 0)) := by rw [← hW6]; exact heap_alloc_new _ _
              have hl6 := (Array.getElem?_eq_some_iff.1 x6).1
              have s6 := (sees_own' hown6).2.2.2.below hb6
              have hB6 : Below w.heap.size w w6 := HB5.out.trans (ho6.below (fun b hb => hb.1) HB5.out.size)
              have s5 := HS5.out.below (below_step hB6 hB6.size hb6)
              have hO6 := fun W' (hb : Below W6.heap.size W6 W') => HC5.out W' (ho6.trans (Outside.of_below (S := NetS w.heap.size w5) (below_step hb6 hb6.size hb)) (fun b _ hb => hb))
              have HO6 := Lib.hid hO6
              have S6 := Lib.hid s6
              have S5 := Lib.hid s5
              have HN6 := Lib.hid hn6
              have HOO := Lib.hid ho6
              have HBB := Lib.hid hb6
              clear hW6 hown6 hn6 ho6 hB6 hO6 s6 s5 hb6
              refine wp_region_calm (Later W6) (by kernel_rfl) (by kernel_rfl) (Below.refl _ _).drew (fun hne => ?_)
              have d0 : ∀ p : InS (Later W6), p.w.cell? ⟨w6.heap.size, 0, none⟩ = some (.int .i64 l5.1) := fun p => by rw [cell_of_row p.w _ 0 _ _ _ ((p.h.block _ hl6).trans x6)]; rfl
              have d1 : ∀ p : InS (Later W6), p.w.cell? ⟨w6.heap.size, 1, none⟩ = some (.int .i64 l5.2.1) := fun p => by rw [cell_of_row p.w _ 1 _ _ _ ((p.h.block _ hl6).trans x6)]; rfl
              have d2 : ∀ p : InS (Later W6), p.w.cell? ⟨w6.heap.size, 2, none⟩ = some (.slice A6 l5.2.2.length c6) := fun p => by rw [cell_of_row p.w _ 2 _ _ _ ((p.h.block _ hl6).trans x6)]; rfl
              have e0 := fun p : InS (Later W6) => (HO6.out p.w p.h).1
              have e1 := fun p : InS (Later W6) => (HO6.out p.w p.h).2.1
              have e2 := fun p : InS (Later W6) => (HO6.out p.w p.h).2.2
              clear x6
              repeat (go_big_quiet_step (first
                | (go_at_call 9; exact calm_of (num_any _ _) (by rintro e w' ⟨rfl, rfl⟩; exact ⟨rfl, InS.h _⟩))
                | (go_at_call 14; exact calm_of (same_any l5.1 l5.2.1 A6 A5 l5.2.2 c6 c5 _ (S6.out.below (InS.h _)) (S5.out.below (InS.h _))) (by rintro e w' ⟨rfl, hb⟩; exact ⟨rfl, later_step (InS.h _) hb⟩))
                | fail))
              refine wpQuiet_nil ?_
              rintro _ ⟨p, rfl⟩
              have J7 := Lib.hid (HNX.out w6 p.w HN6.out HOO.out (below_step HBB.out HBB.out.size p.h))
              clear d0 d1 d2 e0 e1 e2
              go_wp2
              go_roundg (max L.length ts.length - (k + 1))
              case measure => have := HGK.out; omega
              case rel => exact ⟨k + 1, rest, by go_num, rfl, J7.out⟩
        · have hkti : ¬ ((k : Int) < (ts.length : Int)) := by omega
          go_wp2
          go_roundg (max L.length ts.length - (k + 1))
          case measure => have := HGK.out; omega
          case rel => exact ⟨k + 1, _, by go_num, rfl, J5.out⟩
      · obtain ⟨x, hx⟩ : ∃ x, sendE 10000 ls.length l = x := ⟨_, rfl⟩
        rw [hx] at hs
        have hx0 : (x == 0) = false := by simpa using hs
        have HX := Lib.hid hx
        have HBLK := Lib.hid hblk'
        clear hblk' hx hs
        go_upto_region 10 with (first
          | (go_at_call 12; refine (lawOwn_any l.1 l.2.1 A1 l.2.2 c1 _ hc1 hl1 (HS1.out.below (HB.out.mono (Nat.le_refl _)))).mono ?_; rintro e w3 ⟨A3, c3, rfl, hown3, hb3⟩; have so3 := sees_own' hown3; have hB3 := below_step HB.out HB.out.size hb3; have SO3 := Lib.hid so3.2; clear so3 hown3)
          | (go_at_call 11; refine (send_any l.1 l.2.1 A3 l.2.2 c3 _ ((HN.out.below hb3).kind) (by decide) (by decide) HF.out.len SO3.out.1 (by omega) SO3.out.2.2).mono ?_; rintro e w5 ⟨rfl, hn4, ho4⟩; have e4 : sendE 10000 ls.length (l.1, l.2.1, l.2.2) = x := HX.out; rw [e4] at hn4 ⊢; have hn5 : NetAt (Plus (NetS w.heap.size w3) w3) w.heap.size 10000 ls open16 w5 := (by rw [if_neg (by simpa using hx0)] at hn4; exact hn4); have hB4 : Below w.heap.size w w5 := hB3.trans (ho4.below (fun b hb => hb.1) hB3.size); have J5 : Hid (OrdInv w w.heap.size ls u7 w5) := Lib.hid ⟨hn5.mono (NetS.plus hB3.size), HF.out, hB4, cells, (HQ.out.keep hb3).outside ho4, HR.out⟩; clear hn4 ho4 e4 hn5)
          | (go_at_call 9; refine (num_any _ _).mono ?_; rintro e w' ⟨rfl, rfl⟩)
          | fail)
        obtain ⟨v5, hv5⟩ : ∃ v5, u7 = v5 := ⟨_, rfl⟩
        subst hv5
        obtain ⟨ls5, rfl⟩ : ∃ ls5, ls5 = ls := ⟨_, rfl⟩
        by_cases hkt : k < ts.length
        · obtain ⟨bd, rfl, hbc⟩ := HT.out k (.bool ts[k]) (by rw [List.getElem?_map, List.getElem?_eq_getElem hkt]; rfl)
          have hbk := (J5.out.2.2.1.cell (World.block_lt_of_cell? w _ hbc)).trans hbc
          have hkti : (k : Int) < (ts.length : Int) := by omega
          clear hbc
          cases htk : ts[k] with
          | false =>
            rw [htk] at hbk
            clear htk
            go_wp2
            go_roundg (max L.length ts.length - (k + 1))
            case measure => have := HGK.out; omega
            case rel => exact ⟨k + 1, _, by go_num, rfl, J5.out⟩
          | true =>
            rw [htk] at hbk
            clear htk
            cases ls5 with
            | nil =>
              obtain ⟨A5, c5, e5⟩ := J5.out.form
              subst e5
              go_wp2
              go_roundg (max L.length ts.length - (k + 1))
              case measure => have := HGK.out; omega
              case rel => exact ⟨k + 1, _, by go_num, rfl, J5.out⟩
            | cons l5 rest =>
              obtain ⟨g5, o5, cap5, A5, c5, X, rfl, hc5, hm5, hS5, hcell5, hX, hnext⟩ := J5.out.head
              have hT5 := take_any 0 w5 J5.out.1.kind J5.out.2.1
              obtain ⟨te, tl, tn⟩ := take_first J5.out.2.1
              rw [te, tl, tn] at hT5
              have HT5 := Lib.hid hT5
              have HB5 := Lib.hid J5.out.2.2.1
              have HS5 := Lib.hid hS5
              have HC5 := Lib.hid hcell5
              have HNX := Lib.hid hnext
              clear hT5 te tl tn hS5 hcell5 hnext
              go_upto_region 12 with (first
                | (go_at_call 13; refine HT5.out.mono ?_; rintro e w6 ⟨⟨A6, c6, rfl, hown6⟩, hn6, ho6⟩)
                | fail)
              obtain ⟨W6, hW6⟩ : ∃ W6, w6.alloc (.cells #[.int .i64 l5.1, .int .i64 l5.2.1, .slice A6 l5.2.2.length c6] 33) = W6 := ⟨_, rfl⟩
              rw [hW6]
              have hb6 : Below w6.heap.size w6 W6 := by rw [← hW6]; exact (Below.refl _ _).alloc (Nat.le_refl _) _
              have x6 : W6.heap[w6.heap.size]? = some (.cells #[.int .i64 l5.1, .int .i64 l5.2.1, .slice A6 l5.2.2.length c6] 33 (0, 0)) := by rw [← hW6]; exact heap_alloc_new _ _
              have hl6 := (Array.getElem?_eq_some_iff.1 x6).1
              have s6 := (sees_own' hown6).2.2.2.below hb6
              have hB6 : Below w.heap.size w w6 := HB5.out.trans (ho6.below (fun b hb => hb.1) HB5.out.size)
              have s5 := HS5.out.below (below_step hB6 hB6.size hb6)
              have hO6 := fun W' (hb : Below W6.heap.size W6 W') => HC5.out W' (ho6.trans (Outside.of_below (S := NetS w.heap.size w5) (below_step hb6 hb6.size hb)) (fun b _ hb => hb))
              have HO6 := Lib.hid hO6
              have S6 := Lib.hid s6
              have S5 := Lib.hid s5
              have HN6 := Lib.hid hn6
              have HOO := Lib.hid ho6
              have HBB := Lib.hid hb6
              clear hW6 hown6 hn6 ho6 hB6 hO6 s6 s5 hb6
              refine wp_region_calm (Later W6) (by kernel_rfl) (by kernel_rfl) (Below.refl _ _).drew (fun hne => ?_)
              have d0 : ∀ p : InS (Later W6), p.w.cell? ⟨w6.heap.size, 0, none⟩ = some (.int .i64 l5.1) := fun p => by rw [cell_of_row p.w _ 0 _ _ _ ((p.h.block _ hl6).trans x6)]; rfl
              have d1 : ∀ p : InS (Later W6), p.w.cell? ⟨w6.heap.size, 1, none⟩ = some (.int .i64 l5.2.1) := fun p => by rw [cell_of_row p.w _ 1 _ _ _ ((p.h.block _ hl6).trans x6)]; rfl
              have d2 : ∀ p : InS (Later W6), p.w.cell? ⟨w6.heap.size, 2, none⟩ = some (.slice A6 l5.2.2.length c6) := fun p => by rw [cell_of_row p.w _ 2 _ _ _ ((p.h.block _ hl6).trans x6)]; rfl
              have e0 := fun p : InS (Later W6) => (HO6.out p.w p.h).1
              have e1 := fun p : InS (Later W6) => (HO6.out p.w p.h).2.1
              have e2 := fun p : InS (Later W6) => (HO6.out p.w p.h).2.2
              clear x6
              repeat (go_big_quiet_step (first
                | (go_at_call 9; exact calm_of (num_any _ _) (by rintro e w' ⟨rfl, rfl⟩; exact ⟨rfl, InS.h _⟩))
                | (go_at_call 14; exact calm_of (same_any l5.1 l5.2.1 A6 A5 l5.2.2 c6 c5 _ (S6.out.below (InS.h _)) (S5.out.below (InS.h _))) (by rintro e w' ⟨rfl, hb⟩; exact ⟨rfl, later_step (InS.h _) hb⟩))
                | fail))
              refine wpQuiet_nil ?_
              rintro _ ⟨p, rfl⟩
              have J7 := Lib.hid (HNX.out w6 p.w HN6.out HOO.out (below_step HBB.out HBB.out.size p.h))
              clear d0 d1 d2 e0 e1 e2
              go_wp2
              go_roundg (max L.length ts.length - (k + 1))
              case measure => have := HGK.out; omega
              case rel => exact ⟨k + 1, rest, by go_num, rfl, J7.out⟩
        · have hkti : ¬ ((k : Int) < (ts.length : Int)) := by omega
          go_wp2
          go_roundg (max L.length ts.length - (k + 1))
          case measure => have := HGK.out; omega
          case rel => exact ⟨k + 1, _, by go_num, rfl, J5.out⟩
    · by_cases hk2 : k < ts.length
      · have J5 : Hid (OrdInv w w.heap.size ls u7 wr) := Lib.hid ⟨HN.out, HF.out, hbr, cells, HQ.out, HR.out⟩
        obtain ⟨ls5, rfl⟩ : ∃ ls5, ls5 = ls := ⟨_, rfl⟩
        obtain ⟨w5, rfl⟩ : ∃ w5 : World, w5 = wr := ⟨_, rfl⟩
        have hki : ¬ ((k : Int) < (L.length : Int)) := by omega
        have hki2 : (k : Int) < (ts.length : Int) := by omega
        clear hbr
        go_upto_region 10 with (fail)
        clear hki2
        by_cases hkt : k < ts.length
        · obtain ⟨bd, rfl, hbc⟩ := HT.out k (.bool ts[k]) (by rw [List.getElem?_map, List.getElem?_eq_getElem hkt]; rfl)
          have hbk := (J5.out.2.2.1.cell (World.block_lt_of_cell? w _ hbc)).trans hbc
          have hkti : (k : Int) < (ts.length : Int) := by omega
          clear hbc
          cases htk : ts[k] with
          | false =>
            rw [htk] at hbk
            clear htk
            go_wp2
            go_roundg (max L.length ts.length - (k + 1))
            case measure => have := HGK.out; omega
            case rel => exact ⟨k + 1, _, by go_num, rfl, J5.out⟩
          | true =>
            rw [htk] at hbk
            clear htk
            cases ls5 with
            | nil =>
              obtain ⟨A5, c5, e5⟩ := J5.out.form
              subst e5
              go_wp2
              go_roundg (max L.length ts.length - (k + 1))
              case measure => have := HGK.out; omega
              case rel => exact ⟨k + 1, _, by go_num, rfl, J5.out⟩
            | cons l5 rest =>
              obtain ⟨g5, o5, cap5, A5, c5, X, rfl, hc5, hm5, hS5, hcell5, hX, hnext⟩ := J5.out.head
              have hT5 := take_any 0 w5 J5.out.1.kind J5.out.2.1
              obtain ⟨te, tl, tn⟩ := take_first J5.out.2.1
              rw [te, tl, tn] at hT5
              have HT5 := Lib.hid hT5
              have HB5 := Lib.hid J5.out.2.2.1
              have HS5 := Lib.hid hS5
              have HC5 := Lib.hid hcell5
              have HNX := Lib.hid hnext
              clear hT5 te tl tn hS5 hcell5 hnext
              go_upto_region 12 with (first
                | (go_at_call 13; refine HT5.out.mono ?_; rintro e w6 ⟨⟨A6, c6, rfl, hown6⟩, hn6, ho6⟩)
                | fail)
              obtain ⟨W6, hW6⟩ : ∃ W6, w6.alloc (.cells #[.int .i64 l5.1, .int .i64 l5.2.1, .slice A6 l5.2.2.length c6] 33) = W6 := ⟨_, rfl⟩
              rw [hW6]
              have hb6 : Below w6.heap.size w6 W6 := by rw [← hW6]; exact (Below.refl _ _).alloc (Nat.le_refl _) _
              have x6 : W6.heap[w6.heap.size]? = some (.cells #[.int .i64 l5.1, .int .i64 l5.2.1, .slice A6 l5.2.2.length c6] 33 (0, 0)) := by rw [← hW6]; exact heap_alloc_new _ _
              have hl6 := (Array.getElem?_eq_some_iff.1 x6).1
              have s6 := (sees_own' hown6).2.2.2.below hb6
              have hB6 : Below w.heap.size w w6 := HB5.out.trans (ho6.below (fun b hb => hb.1) HB5.out.size)
              have s5 := HS5.out.below (below_step hB6 hB6.size hb6)
              have hO6 := fun W' (hb : Below W6.heap.size W6 W') => HC5.out W' (ho6.trans (Outside.of_below (S := NetS w.heap.size w5) (below_step hb6 hb6.size hb)) (fun b _ hb => hb))
              have HO6 := Lib.hid hO6
              have S6 := Lib.hid s6
              have S5 := Lib.hid s5
              have HN6 := Lib.hid hn6
              have HOO := Lib.hid ho6
              have HBB := Lib.hid hb6
              clear hW6 hown6 hn6 ho6 hB6 hO6 s6 s5 hb6
              refine wp_region_calm (Later W6) (by kernel_rfl) (by kernel_rfl) (Below.refl _ _).drew (fun hne => ?_)
              have d0 : ∀ p : InS (Later W6), p.w.cell? ⟨w6.heap.size, 0, none⟩ = some (.int .i64 l5.1) := fun p => by rw [cell_of_row p.w _ 0 _ _ _ ((p.h.block _ hl6).trans x6)]; rfl
              have d1 : ∀ p : InS (Later W6), p.w.cell? ⟨w6.heap.size, 1, none⟩ = some (.int .i64 l5.2.1) := fun p => by rw [cell_of_row p.w _ 1 _ _ _ ((p.h.block _ hl6).trans x6)]; rfl
              have d2 : ∀ p : InS (Later W6), p.w.cell? ⟨w6.heap.size, 2, none⟩ = some (.slice A6 l5.2.2.length c6) := fun p => by rw [cell_of_row p.w _ 2 _ _ _ ((p.h.block _ hl6).trans x6)]; rfl
              have e0 := fun p : InS (Later W6) => (HO6.out p.w p.h).1
              have e1 := fun p : InS (Later W6) => (HO6.out p.w p.h).2.1
              have e2 := fun p : InS (Later W6) => (HO6.out p.w p.h).2.2
              clear x6
              repeat (go_big_quiet_step (first
                | (go_at_call 9; exact calm_of (num_any _ _) (by rintro e w' ⟨rfl, rfl⟩; exact ⟨rfl, InS.h _⟩))
                | (go_at_call 14; exact calm_of (same_any l5.1 l5.2.1 A6 A5 l5.2.2 c6 c5 _ (S6.out.below (InS.h _)) (S5.out.below (InS.h _))) (by rintro e w' ⟨rfl, hb⟩; exact ⟨rfl, later_step (InS.h _) hb⟩))
                | fail))
              refine wpQuiet_nil ?_
              rintro _ ⟨p, rfl⟩
              have J7 := Lib.hid (HNX.out w6 p.w HN6.out HOO.out (below_step HBB.out HBB.out.size p.h))
              clear d0 d1 d2 e0 e1 e2
              go_wp2
              go_roundg (max L.length ts.length - (k + 1))
              case measure => have := HGK.out; omega
              case rel => exact ⟨k + 1, rest, by go_num, rfl, J7.out⟩
        · have hkti : ¬ ((k : Int) < (ts.length : Int)) := by omega
          go_wp2
          go_roundg (max L.length ts.length - (k + 1))
          case measure => have := HGK.out; omega
          case rel => exact ⟨k + 1, _, by go_num, rfl, J5.out⟩
      · have J5 : Hid (OrdInv w w.heap.size ls u7 wr) := Lib.hid ⟨HN.out, HF.out, hbr, cells, HQ.out, HR.out⟩
        have hki : ¬ ((k : Int) < (L.length : Int)) := by omega
        have hki2 : ¬ ((k : Int) < (ts.length : Int)) := by omega
        clear hbr HN HF HQ HR HGK HL HT
        go_wp2_with fail
        clear hki hki2
        go_loopg [7] ls.length (fun gk v wr => ∃ (ls : List Lt), gk = ls.length ∧ OrdInv w w.heap.size ls v wr)
        case atStart => exact ⟨ls, rfl, J5.out⟩
        case round =>
          obtain ⟨ls5, rfl, hj⟩ := hrel
          obtain ⟨w5, rfl⟩ : ∃ w5 : World, w5 = wr := ⟨_, rfl⟩
          clear J5
          have J5 := Lib.hid hj
          clear hj
          cases ls5 with
          | nil =>
            obtain ⟨A5, c5, e5⟩ := J5.out.form
            subst e5
            go_wp2_with (first
              | (go_at_call 15; refine (len_any _ J5.out.1 (by decide)).mono ?_; rintro e w' ⟨rfl, rfl⟩)
              | fail)
            go_ret
            exact ⟨rfl, J5.out.2.2.1⟩
          | cons l5 rest =>
            obtain ⟨g5, o5, cap5, A5, c5, X, rfl, hc5, hm5, hS5, hcell5, hX, hnext⟩ := J5.out.head
            have hT5 := take_any 0 w5 J5.out.1.kind J5.out.2.1
            obtain ⟨te, tl, tn⟩ := take_first J5.out.2.1
            rw [te, tl, tn] at hT5
            have HT5 := Lib.hid hT5
            have HB5 := Lib.hid J5.out.2.2.1
            have HS5 := Lib.hid hS5
            have HC5 := Lib.hid hcell5
            have HNX := Lib.hid hnext
            clear hT5 te tl tn hS5 hcell5 hnext
            go_upto_region 17 with (first
              | (go_at_call 13; refine HT5.out.mono ?_; rintro e w6 ⟨⟨A6, c6, rfl, hown6⟩, hn6, ho6⟩)
              | fail)
            obtain ⟨W6, hW6⟩ : ∃ W6, w6.alloc (.cells #[.int .i64 l5.1, .int .i64 l5.2.1, .slice A6 l5.2.2.length c6] 33) = W6 := ⟨_, rfl⟩
            rw [hW6]
            have hb6 : Below w6.heap.size w6 W6 := by rw [← hW6]; exact (Below.refl _ _).alloc (Nat.le_refl _) _
            have x6 : W6.heap[w6.heap.size]? = some (.cells #[.int .i64 l5.1, .int .i64 l5.2.1, .slice A6 l5.2.2.length c6] 33 (0, 0)) := by rw [← hW6]; exact heap_alloc_new _ _
            have hl6 := (Array.getElem?_eq_some_iff.1 x6).1
            have s6 := (sees_own' hown6).2.2.2.below hb6
            have hB6 : Below w.heap.size w w6 := HB5.out.trans (ho6.below (fun b hb => hb.1) HB5.out.size)
            have s5 := HS5.out.below (below_step hB6 hB6.size hb6)
            have hO6 := fun W' (hb : Below W6.heap.size W6 W') => HC5.out W' (ho6.trans (Outside.of_below (S := NetS w.heap.size w5) (below_step hb6 hb6.size hb)) (fun b _ hb => hb))
            have HO6 := Lib.hid hO6
            have S6 := Lib.hid s6
            have S5 := Lib.hid s5
            have HN6 := Lib.hid hn6
            have HOO := Lib.hid ho6
            have HBB := Lib.hid hb6
            clear hW6 hown6 hn6 ho6 hB6 hO6 s6 s5 hb6
            refine wp_region_calm (Later W6) (by kernel_rfl) (by kernel_rfl) (Below.refl _ _).drew (fun hne => ?_)
            have d0 : ∀ p : InS (Later W6), p.w.cell? ⟨w6.heap.size, 0, none⟩ = some (.int .i64 l5.1) := fun p => by rw [cell_of_row p.w _ 0 _ _ _ ((p.h.block _ hl6).trans x6)]; rfl
            have d1 : ∀ p : InS (Later W6), p.w.cell? ⟨w6.heap.size, 1, none⟩ = some (.int .i64 l5.2.1) := fun p => by rw [cell_of_row p.w _ 1 _ _ _ ((p.h.block _ hl6).trans x6)]; rfl
            have d2 : ∀ p : InS (Later W6), p.w.cell? ⟨w6.heap.size, 2, none⟩ = some (.slice A6 l5.2.2.length c6) := fun p => by rw [cell_of_row p.w _ 2 _ _ _ ((p.h.block _ hl6).trans x6)]; rfl
            have e0 := fun p : InS (Later W6) => (HO6.out p.w p.h).1
            have e1 := fun p : InS (Later W6) => (HO6.out p.w p.h).2.1
            have e2 := fun p : InS (Later W6) => (HO6.out p.w p.h).2.2
            clear x6
            repeat (go_big_quiet_step (first
              | (go_at_call 9; exact calm_of (num_any _ _) (by rintro e w' ⟨rfl, rfl⟩; exact ⟨rfl, InS.h _⟩))
              | (go_at_call 14; exact calm_of (same_any l5.1 l5.2.1 A6 A5 l5.2.2 c6 c5 _ (S6.out.below (InS.h _)) (S5.out.below (InS.h _))) (by rintro e w' ⟨rfl, hb⟩; exact ⟨rfl, later_step (InS.h _) hb⟩))
              | fail))
            refine wpQuiet_nil ?_
            rintro _ ⟨p, rfl⟩
            have J7 := Lib.hid (HNX.out w6 p.w HN6.out HOO.out (below_step HBB.out HBB.out.size p.h))
            clear d0 d1 d2 e0 e1 e2
            go_wp2
            go_roundg rest.length
            case measure => simp
            case rel => exact ⟨rest, rfl, J7.out⟩
end Go.Proofs.Ytfhmdphcgcmaeaa
