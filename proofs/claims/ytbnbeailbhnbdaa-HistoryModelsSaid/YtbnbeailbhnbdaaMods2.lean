/-
  HistoryModels: the walk.
-/
import Derived.Test.YtbnbeailbhnbdaaMods
import Derived.Deep.LoopGhost
import Derived.Deep.CutBlock
import Derived.Deep.DeepCutAuto
set_option linter.unusedVariables false
set_option linter.unusedSimpArgs false
namespace Go.Proofs.Ytbnbeailbhnbdaa
open Go.RowKit

theorem Outside.undrew {S : Nat → Prop} {W W' : World} (h : Outside S W.drew W') : Outside S W W' := ⟨h.os, h.tape, h.output, h.size, h.block⟩
theorem cells4 {W : World} {b : Nat} {v0 v1 v2 v3 : Value} {ty : TypeId} (h : W.heap[b]? = some (.cells #[v0, v1, v2, v3] ty (0, 0))) :
    W.cell? ⟨b, 0, none⟩ = some v0 ∧ W.cell? ⟨b, 1, none⟩ = some v1 ∧ W.cell? ⟨b, 2, none⟩ = some v2 ∧ W.cell? ⟨b, 3, none⟩ = some v3 :=
  ⟨by rw [cell_of_row _ _ 0 _ _ _ h]; rfl, by rw [cell_of_row _ _ 1 _ _ _ h]; rfl, by rw [cell_of_row _ _ 2 _ _ _ h]; rfl, by rw [cell_of_row _ _ 3 _ _ _ h]; rfl⟩
theorem RoomAt.out {X S : Nat → Prop} {W W' : World} {A : Option Addr} {n : Nat} (h : RoomAt X W A n) (ho : Outside S W W') (hS : ∀ b, S b → ¬ X b) : RoomAt X W' A n := by
  intro i hi
  obtain ⟨ad, e, ⟨v', hc⟩, hf, hx⟩ := h i hi
  have hlt := World.block_lt_of_cell? _ _ hc
  have hk := ho.block _ hlt (fun hs => hS _ hs (by rw [add_blk]; exact hx))
  exact ⟨ad, e, ⟨v', (World.cell?_of_block hk).trans hc⟩, (World.frozen?_of_block hk).trans hf, hx⟩
/-- Rows of bytes that may be written, in a row that may not. -/
def OuterAt (I : Nat → Prop) (W : World) (A : Option Addr) (m : Nat) : Prop := ∀ i, i < m → ∃ ad A1 q1 c1, A = some ad ∧ W.cell? (ad.add i) = some (.slice A1 q1 c1) ∧ RoomAt I W A1 q1 ∧ q1 ≤ 140737488355328 ∧ ¬ I ad.block
theorem OuterAt.set {I : Nat → Prop} {W : World} {A : Option Addr} {m : Nat} (h : OuterAt I W A m) (p : Addr) (v : Int) (hp : I p.block) : OuterAt I (W.setCell p (.int .u8 v)) A m := by
  intro i hi
  obtain ⟨ad, A1, q1, c1, e, hc, hr, hq, hn⟩ := h i hi
  exact ⟨ad, A1, q1, c1, e, by rw [World.cell?_setCell_other W _ _ _ (fun e => hn (by rw [e, add_blk] at hp; exact hp))]; exact hc, hr.set p v, hq, hn⟩
theorem OuterAt.below {I : Nat → Prop} {W W' : World} {A : Option Addr} {m : Nat} (h : OuterAt I W A m) (hb : Below W.heap.size W W') : OuterAt I W' A m := by
  intro i hi
  obtain ⟨ad, A1, q1, c1, e, hc, hr, hq, hn⟩ := h i hi
  exact ⟨ad, A1, q1, c1, e, (hb.cell (World.block_lt_of_cell? _ _ hc)).trans hc, hr.below hb, hq, hn⟩
theorem OuterAt.of {I : Nat → Prop} {w5 : World} {A5 : Option Addr} {m5 c5 base n0 : Nat} {cells : List Value} {xs : List (List UInt8)} (ho : w5.ownsRow base 30 1 (.slice A5 m5 c5) m5 cells) (hr : Recs (byRow (fun b => n0 ≤ b)) 1 w5 xs cells) (hm : m5 = xs.length)
    (hI : ∀ b, n0 ≤ b → b < w5.heap.size → (∀ ad, A5 = some ad → ad.block ≠ b) → I b) (hI2 : ∀ ad, A5 = some ad → ¬ I ad.block) (hlen : ∀ x ∈ xs, x.length ≤ 140737488355328) : OuterAt I w5 A5 m5 := by
  intro i hi
  have hil : i < xs.length := by omega
  obtain ⟨cs, _, ⟨A1, c1, rfl, ho1, hs⟩, hcs⟩ := hr.get (List.getElem?_eq_getElem hil)
  have hu : cells[i]? = some (.slice A1 xs[i].length c1) := by simpa using hcs 0 _ rfl
  obtain ⟨ad, e, hc⟩ := (sees_own' ho).2.2.2 i _ hu
  refine ⟨ad, A1, _, c1, e, hc, RoomAt.of_own ho1 (fun k hk => hI k (hs k hk) (own_block_ge ho1 k hk).2 (fun ad' e' hb => ?_)), hlen _ (List.getElem_mem hil), hI2 ad e⟩
  rcases ho.2 with ⟨e1, e2⟩ | ⟨g, cap, cur, hv, _, hh, _⟩
  · rw [e'] at e1
    cases e1
  · rcases ho1.2 with ⟨f1, f2⟩ | ⟨g', cap', cur', hv', _, hh', _⟩
    · rw [f1] at hk
      simp [Value.ownBlock] at hk
    · rw [e'] at hv
      cases hv
      cases hv'
      simp only [Value.ownBlock, Option.some.injEq] at hk
      rw [hk, ← hb] at hh'
      rw [hh] at hh'
      injection hh' with hh'
      injection hh' with _ ht
      exact absurd ht (by decide)
theorem see_of_getR {S : Nat → Prop} {w' : World} {xs : List (List UInt8)} {A : Option Addr} {m c : Nat} {cells : List Value} {base : Nat} (hm : m = xs.length) (ho : w'.ownsRow base 30 1 (.slice A m c) m cells) (hr : Recs (byRow S) 1 w' xs cells) : RecSee (fun _ => True) xs A m c w' :=
  ⟨cells, hm.symm, (sees_own' ho).2.2.2, fun _ _ => trivial, hr.imp fun j x cs _ hR => by
    obtain ⟨A', c', e, ho', _⟩ := hR
    exact ⟨A', c', e, ho', fun _ _ => trivial⟩⟩
theorem lists_same {T1 T2 : Nat → Prop} {l : List (List UInt8)} {A B : Option Addr} {n m c d : Nat} (w : World) (h1 : RecSee T1 l A n c w) (h2 : RecSee T2 l B m d w) (hn : n ≤ 140737488355328) :
    Calls Try.prog 17 #[.slice A n c, .slice B m d] w fun e w' => e = .returned (.bool true) ∧ Below w.heap.size w w' := by
  refine (lists_any w h1 h2 hn).mono ?_
  rintro e w' ⟨rfl, hb⟩
  exact ⟨by simp, hb⟩
theorem getL_len {fr mo : Int} {f : Nat} {l : List (List UInt8)} : (getL fr mo f l).length ≤ l.length := by
  unfold getL
  split
  · rw [List.length_take, List.length_drop]; omega
  · exact Nat.zero_le _
theorem getL_mem {fr mo : Int} {f : Nat} {l : List (List UInt8)} {x : List UInt8} (h : x ∈ getL fr mo f l) : x ∈ l := by
  unfold getL at h
  split at h
  · exact List.mem_of_mem_drop (List.mem_of_mem_take h)
  · cases h
theorem Two.bel {w0 W : World} {X : Nat → Prop} {gm fm gr fr : Nat} {lm lr : List (List UInt8)} (h : Two w0 X gm fm lm gr fr lr W) : Below w0.heap.size w0 W := by
  obtain ⟨S, T, _, _, _, _, h⟩ := h
  exact h
/-- Both models alike, and small. -/
def Alike (w0 : World) (gm gr k : Nat) (W : World) : Prop := ∃ f l, Two w0 (fun _ => False) gm f l gr f l W ∧ f + l.length ≤ k ∧ ∀ x ∈ l, x.length ≤ 140737488355328
theorem alike_new {w w1 w3 : World} (h1 : ModAt 61 (fun b => w.heap.size ≤ b) w.heap.size 0 [] w1) (b1 : Below w.heap.size w w1) (b3 : Below (w1.alloc (.cells #[.int .i64 0, .slice none 0 0] 28)).heap.size (w1.alloc (.cells #[.int .i64 0, .slice none 0 0] 28)) w3) :
    Alike w w.heap.size w1.heap.size 0 w3 := by
  have z1 := b1.size
  refine ⟨0, [], Two.below (W := w1.alloc (.cells #[.int .i64 0, .slice none 0 0] 28)) ⟨Cut (fun b => w.heap.size ≤ b) w1, fun b => b = w1.heap.size, ?_, ?_, h1.cut.below ((Below.refl _ _).alloc (Nat.le_refl _) _), ?_, b1.alloc z1 _⟩ b3, Nat.le_refl _, fun x hx => by cases hx⟩
  · rintro b ⟨h, h'⟩
    exact ⟨h, by simp; omega, fun h => h, fun h => by omega⟩
  · rintro b rfl
    exact ⟨z1, by simp, fun h => h⟩
  · exact ⟨none, 0, [], heap_alloc_new w1 _, rfl, ⟨rfl, .inl ⟨rfl, rfl⟩⟩, fun b hb => by simp [Value.ownBlock] at hb, Recs.nil⟩
set_option maxRecDepth 16384 in
set_option maxHeartbeats 8000000 in
theorem models_any (A : Option Addr) (os : List OpM) (c n : Nat) (w : World) (hO : SeenM w A os) (hn : os.length = n) (hl : n * 48 ≤ 140737488351232) :
    Calls Try.prog 3 #[.slice A n c] w (RetBool w true) := by
  have HO := Lib.hid hO
  have HN := Lib.hid hn
  have hnn : n ≤ 2932031007317 := by omega
  clear hO hn hl
  have hpn := fun (W : World) (a : Addr) => run_eql_pointer_nil (P := Try.prog) W 23 (some a)
  go_enter Try.func3, Try.ntmps3
  go_wp2_with (first
    | (go_at_call 9; refine (new_any _).mono ?_; rintro e w1 ⟨rfl, hm1, hb1⟩; have HM1 := Lib.hid hm1; have HB1 := Lib.hid hb1; clear hm1 hb1)
    | (go_at_call 10; refine (knows_any _).mono ?_; rintro e w3 ⟨rfl, hb3⟩; have HB3 := Lib.hid hb3; clear hb3)
    | fail)
  have HAL := Lib.hid (alike_new HM1.out HB1.out HB3.out)
  obtain ⟨gm, hgm⟩ : ∃ gm, w.heap.size = gm := ⟨_, rfl⟩
  obtain ⟨gr, hgr⟩ : ∃ gr, w1.heap.size = gr := ⟨_, rfl⟩
  rw [hgm, hgr] at HAL
  try rw [hgm]
  try rw [hgr]
  have HGM := Lib.hid hgm
  clear hgm hgr HM1 HB1 HB3
  go_loopw [5] (fun s5 wr => ∃ k : Nat, s5 = .int .i64 (k : Int) ∧ k ≤ n ∧ Alike w gm gr k wr) (fun s5 _ => n - (intOf s5).toNat)
  case atStart => exact ⟨0, rfl, Nat.zero_le _, HAL.out⟩
  case round =>
    obtain ⟨k, rfl, hk, hal⟩ := hrel
    have HA := Lib.hid hal
    clear HAL hal
    by_cases hlt : k < n
    · have hki : (k : Int) < (n : Int) := by omega
      have hbw : Below w.heap.size w wr := by obtain ⟨f, l, ⟨S, T, _, _, _, _, h⟩, _⟩ := HA.out; exact h
      obtain ⟨ad, A1, c1, hop⟩ := HO.out.at (k := k) (by rw [HN.out]; exact hlt)
      have hop' := hop.later hbw
      obtain ⟨o, ho⟩ : ∃ o, os[k]'(by rw [HN.out]; exact hlt) = o := ⟨_, rfl⟩
      rw [ho] at hop hop'
      obtain rfl := hop.adr
      have q0 := hop'.e0
      have q1 := hop'.e1
      have q2 := hop'.e2
      have q3 := hop'.e3
      have hbs := hop'.bs
      have hbs0 := hop.bs
      have hbc := hop'.bc
      have hbl := hop'.bl
      obtain ⟨kd, fr, mo, bs⟩ := o
      simp only at q0 q1 q2 q3 hbs hbc hbl hbs0
      obtain ⟨q, hq⟩ : ∃ q, bs.length = q := ⟨_, rfl⟩
      rw [hq] at q3 hbc hbl
      obtain ⟨bx, hbx⟩ : ∃ bx, wr.heap.size = bx := ⟨_, rfl⟩
      obtain ⟨W, hW⟩ : ∃ W, wr.alloc (.cells #[.int .i64 kd, .int .i64 fr, .int .i64 mo, .slice A1 q c1] 32) = W := ⟨_, rfl⟩
      have hbW : Below wr.heap.size wr W := by rw [← hW]; exact (Below.refl _ _).alloc (Nat.le_refl _) _
      have xo : W.heap[bx]? = some (.cells #[.int .i64 kd, .int .i64 fr, .int .i64 mo, .slice A1 q c1] 32 (0, 0)) := by rw [← hW, ← hbx]; exact heap_alloc_new _ _
      have hzW : W.heap.size = bx + 1 := by rw [← hW, ← hbx]; simp
      have HBW := Lib.hid hbw
      have HX := Lib.hid xo
      have HZ := Lib.hid hzW
      have HSW := Lib.hid (hbs.below hbW)
      have HQ := Lib.hid hq
      have HSW0 := Lib.hid hbs0
      have HTW := HA
      have HWW := Lib.hid hbW
      have HW := Lib.hid hW
      have HBX := Lib.hid hbx
      obtain ⟨i0, i1, i2, i3⟩ := cells4 xo
      clear hbw hop hop' ho hbs hbs0 hq hW hbW hbx xo hzW HA
      go_upto_block 2 with (fail)
      try rw [HW.out]
      try rw [HBX.out]
      clear HW q0 q1 q2 q3
      go_cut [7] (fun s7 wc => s7 = .bool true ∧ Alike w gm gr (k + 1) wc)
      case first =>
        obtain ⟨f, l, htw, hfl, hle⟩ := HTW.out
        obtain ⟨N, hNl⟩ : ∃ N, l.length = N := ⟨_, rfl⟩
        have hN : N ≤ 4398046511104 := by omega
        have hF : f ≤ 140737488355328 := by omega
        have HT := Lib.hid htw
        have HFL := Lib.hid hfl
        have HLE := Lib.hid hle
        have HNL := Lib.hid hNl
        have HOX : Hid (∀ W', Below W.heap.size W W' → _) := Lib.hid fun W' (hb : Below W.heap.size W W') => cells4 (block_below HX.out hb)
        clear htw hfl hle hNl HTW
        by_cases h0 : kd = 0
        · subst h0
          obtain ⟨z, hz⟩ : ∃ z, ((f + N : Nat) : Int) = z := ⟨_, rfl⟩
          have hzz : (z == z) = true := by simp
          have HZZ := Lib.hid hz
          clear hz
          have HSE : Hid (Sees (W.alloc (.cells #[] 5)) A1 (u8s bs)) := Lib.hid (HSW.out.below ((Below.refl _ _).alloc (Nat.le_refl _) _))
          have i4 := (HOX.out _ ((Below.refl W.heap.size W).alloc (Nat.le_refl _) (.cells #[] 5))).2.2.2
          go_upto_region 23 with (first
            | (at_builtin; refine wpList_append_sees rfl (.tmp 89) (.tmp 91) 30 rfl W.heap.size 5 (.int .u8 0) 1 1 Try.underlying30 infoU8 rfl (by decide) (.slice (some ⟨W.heap.size, 0, none⟩) 0 0) 0 [] rfl (own_made0 W 5 1) A1 q c1 (u8s bs) rfl (by simp [u8s, HQ.out]) HSE.out (u8s_one _) (by simp only [maxLen]; omega) (by omega) (by simp) ?_; intro A6 c6 w6 hown6 hg6 hat6; have hb6 := below_grown_own ((Below.refl W.heap.size W).alloc (Nat.le_refl _) (.cells #[] 5)) (by simp) (own_made0 W 5 1) (Nat.le_refl _) hg6; have HOW6 := Lib.hid hown6; have HB6 := Lib.hid hb6; have e0 : 0 + q = q := Nat.zero_add _; rw [e0]; rw [e0] at HOW6; clear hown6 hg6 hat6 hb6 e0)
            | fail)
          have hs6 : Hid (Sees w6.drew A6 (u8s bs)) := Lib.hid (sees_own' (own_keep HOW6.out (Below.refl _ w6).drew)).2.2.2
          have hc6 := (sees_own' HOW6.out).2.1
          have hx6 := HOX.out w6 HB6.out
          have hx6d := HOX.out w6.drew HB6.out.drew
          have i1' := hx6.2.2.2
          have i2' := hx6d.2.2.2
          obtain ⟨X, hX⟩ : ∃ X : Nat → Prop, X = (fun b => wr.heap.size ≤ b ∧ b < w6.heap.size) := ⟨_, rfl⟩
          have HTX : Hid (Two w X gm f l gr f l w6.drew) := Lib.hid (by rw [hX]; exact (HT.out.fresh (below_step HWW.out HWW.out.size HB6.out)).below (Below.refl _ _).drew)
          obtain ⟨S, hS1, hS2, hS3⟩ := HTX.out.left (fun b hb => by rw [hX] at hb; exact hb.2)
          have HRM : Hid (RoomAt X w6 A6 q) := Lib.hid (RoomAt.of_own HOW6.out (fun k hk => by rw [hX]; have := own_block_ge HOW6.out k hk; have := HWW.out.size; exact ⟨by omega, by omega⟩))
          have HXL : Hid (∀ b, X b → b < w6.heap.size ∧ wr.heap.size ≤ b) := Lib.hid (fun b hb => by rw [hX] at hb; exact ⟨hb.2, hb.1⟩)
          have HXB : Hid (X bx) := Lib.hid (by rw [hX]; have := HBX.out; have := HZ.out; have := HB6.out.size; exact ⟨by omega, by omega⟩)
          have HS1 := Lib.hid hS1
          have HS2 := Lib.hid hS2
          have HS3 := Lib.hid hS3
          clear hx6 hx6d hX hS1 hS2 hS3
          have hput := put_any A6 bs c6 w6.drew HS1.out hF (by rw [HNL.out]; exact hN) (by rw [HQ.out]; exact hc6) (by rw [HQ.out]; omega) hs6.out
          rw [HQ.out, HNL.out, HZZ.out] at hput
          have HPUT := Lib.hid hput
          clear hput
          have hrp : ∀ w7, Outside S w6.drew w7 → Two w X gm f (l ++ [bs]) gr f l w7 → ∃ T : Nat → Prop, (∀ b, T b → w.heap.size ≤ b ∧ b < w7.heap.size ∧ ¬ X b) ∧ (∀ W' f' l', ModAt 28 (Plus T w7) gr f' l' W' → Outside T w7 W' → Two w X gm f (l ++ [bs]) gr f' l' W') ∧ Calls Try.prog 12 #[.pointer (some ⟨gr, 0, none⟩), .slice A1 q c1] w7 (RetMod 28 T gr f (l ++ [bs]) z w7) := by
            intro w7 ho7 ht7
            obtain ⟨T, hT1, hT2, hT3⟩ := ht7.right (fun b hb => Nat.lt_of_lt_of_le (HXL.out b hb).1 ho7.size)
            refine ⟨T, hT2, hT3, ?_⟩
            have h := refput_any A1 bs c1 w7 hT1 hF (by rw [HNL.out]; exact hN) (by rw [HQ.out]; exact hbc) (by rw [HQ.out]; omega) (HSW0.out.below ht7.bel)
            rw [HQ.out, HNL.out, HZZ.out] at h
            exact h
          have HRP := Lib.hid hrp
          clear hrp
          go_region_held3 (fun W' => W'.cell? ⟨bx, 3, none⟩ = some (.slice A1 q c1))
            (first
              | exact i2'
              | exact j7
              | exact j8
              | fail)
            (first
              | (go_simp; go_at_call 11; refine HPUT.out.mono ?_; rintro e w7 ⟨rfl, hm7, ho7⟩; have ht7 := HS3.out w7 f (l ++ [bs]) hm7 ho7; obtain ⟨T, hT1, hT2, hT3⟩ := HRP.out w7 ho7 ht7; have j7 : w7.cell? ⟨bx, 3, none⟩ = some (.slice A1 q c1) := (out_cell ho7 (fun hs => (HS2.out _ hs).2.2 HXB.out) i2'); have HO7 := Lib.hid ho7; have HT1 := Lib.hid hT1; have HT2 := Lib.hid hT2; have HT3 := Lib.hid hT3; clear hm7 ho7 ht7 hT1 hT2 hT3)
              | (go_simp; go_at_call 12; refine HT3.out.mono ?_; rintro e w8 ⟨rfl, hm8, ho8⟩; have j8 : w8.cell? ⟨bx, 3, none⟩ = some (.slice A1 q c1) := (out_cell ho8 (fun hs => (HT1.out _ hs).2.2 HXB.out) j7); have HT8 := Lib.hid (HT2.out w8 f (l ++ [bs]) hm8 ho8); have HO8 := Lib.hid ho8; clear hm8 ho8)
              | fail)
          have HR8 : Hid (RoomAt X w8 A6 q) := Lib.hid (((HRM.out.below (Below.refl _ _).drew).out HO7.out (fun b hb => (HS2.out b hb).2.2)).out HO8.out (fun b hb => (HT1.out b hb).2.2))
          have HAK : Hid (∀ W', Two w X gm f (l ++ [bs]) gr f (l ++ [bs]) W' → Alike w gm gr (k + 1) W') := Lib.hid (fun W' h => ⟨f, l ++ [bs], h.drop, by have := HFL.out; simp only [List.length_append, List.length_singleton]; omega, fun x hx => by
            rcases List.mem_append.1 hx with hx | hx
            · exact HLE.out x hx
            · rw [List.mem_singleton.1 hx, HQ.out]; omega⟩)
          have HX0 : Hid (∀ b, X b → w.heap.size ≤ b) := Lib.hid (fun b hb => by have := (HXL.out b hb).2; have := HBW.out.size; omega)
          clear HPUT HRP HS1 HS2 HS3 HT1 HT2 HT3 HO7 HO8 HRM HTX i2' i1' i4 j7 j8 i0 i1 i2 i3
          go_wp2_with fail
          go_loopw [9] (fun s9 wl => ∃ j : Nat, s9 = .int .i64 (j : Int) ∧ j ≤ q ∧ Two w X gm f (l ++ [bs]) gr f (l ++ [bs]) wl ∧ RoomAt X wl A6 q) (fun s9 _ => q - (intOf s9).toNat)
          case atStart => exact ⟨0, rfl, Nat.zero_le _, HT8.out, HR8.out⟩
          case round =>
            obtain ⟨j, rfl, hj, htj, hrj⟩ := hrel
            have HTJ := Lib.hid htj
            have HRJ := Lib.hid hrj
            clear htj hrj
            by_cases hjq : j < q
            · have hji : (j : Int) < (q : Int) := by omega
              obtain ⟨a6, rfl, ⟨v, hc⟩, hf, hx⟩ := HRJ.out j hjq
              have HXX := Lib.hid hx
              clear hx
              go_wp2_with fail
              go_roundw
              case rel => exact ⟨j + 1, by go_num, hjq, HTJ.out.out ((Outside.refl X _).set _ _ (.inr (by rw [add_blk]; exact HXX.out))) HX0.out, HRJ.out.set _ _⟩
              case measure => simp [intOf] <;> omega
            · have hji : ¬ (j : Int) < (q : Int) := by omega
              go_wp2_with fail
              go_meet
              case rel => exact ⟨rfl, HAK.out _ HTJ.out⟩
        · by_cases h1 : kd = 1
          · subst h1
            obtain ⟨z, hz⟩ : ∃ z, ((clampN fr f N : Nat) : Int) = z := ⟨_, rfl⟩
            have hzz : (z == z) = true := by simp
            obtain ⟨g', hg'⟩ : ∃ g', clampN fr f N = g' := ⟨_, rfl⟩
            obtain ⟨l', hl'⟩ : ∃ l', l.drop (clampN fr f N - f) = l' := ⟨_, rfl⟩
            have HZZ := Lib.hid hz
            have HGG := Lib.hid hg'
            have HLL := Lib.hid hl'
            clear hz hg' hl'
            obtain ⟨X, hX⟩ : ∃ X : Nat → Prop, X = (fun b => wr.heap.size ≤ b ∧ b < W.heap.size) := ⟨_, rfl⟩
            have HTX : Hid (Two w X gm f l gr f l W.drew) := Lib.hid (by rw [hX]; exact (HT.out.fresh HWW.out).below (Below.refl _ _).drew)
            obtain ⟨S, hS1, hS2, hS3⟩ := HTX.out.left (fun b hb => by rw [hX] at hb; exact hb.2)
            have HXL : Hid (∀ b, X b → b < W.heap.size ∧ wr.heap.size ≤ b) := Lib.hid (fun b hb => by rw [hX] at hb; exact ⟨hb.2, hb.1⟩)
            have HXB : Hid (X bx) := Lib.hid (by rw [hX]; have := HBX.out; have := HZ.out; exact ⟨by omega, by omega⟩)
            have HS1 := Lib.hid hS1
            have HS2 := Lib.hid hS2
            have HS3 := Lib.hid hS3
            clear hX hS1 hS2 hS3
            have htr := trim_any fr W.drew HS1.out hF (by rw [HNL.out]; exact hN)
            rw [HNL.out, HLL.out, HZZ.out, HGG.out] at htr
            have HTR := Lib.hid htr
            clear htr
            have hrp : ∀ w7, Outside S W.drew w7 → Two w X gm g' l' gr f l w7 → ∃ T : Nat → Prop, (∀ b, T b → w.heap.size ≤ b ∧ b < w7.heap.size ∧ ¬ X b) ∧ (∀ W' f' l'', ModAt 28 (Plus T w7) gr f' l'' W' → Outside T w7 W' → Two w X gm g' l' gr f' l'' W') ∧ Calls Try.prog 14 #[.pointer (some ⟨gr, 0, none⟩), .int .i64 fr] w7 (RetMod 28 T gr g' l' z w7) := by
              intro w7 ho7 ht7
              obtain ⟨T, hT1, hT2, hT3⟩ := ht7.right (fun b hb => Nat.lt_of_lt_of_le (HXL.out b hb).1 ho7.size)
              refine ⟨T, hT2, hT3, ?_⟩
              have h := reftrim_any fr w7 hT1 hF (by rw [HNL.out]; exact hN)
              rw [HNL.out, HLL.out, HZZ.out, HGG.out] at h
              exact h
            have HRP := Lib.hid hrp
            clear hrp
            have i2' : W.drew.cell? ⟨bx, 1, none⟩ = some (.int .i64 fr) := i1
            go_upto_region 29 with (fail)
            go_region_held3 (fun W' => W'.cell? ⟨bx, 1, none⟩ = some (.int .i64 fr))
              (first
                | exact i2'
                | exact j7
                | exact j8
                | fail)
              (first
                | (go_simp; go_at_call 13; refine HTR.out.mono ?_; rintro e w7 ⟨rfl, hm7, ho7⟩; have ht7 := HS3.out w7 g' l' hm7 ho7; obtain ⟨T, hT1, hT2, hT3⟩ := HRP.out w7 ho7 ht7; have j7 : w7.cell? ⟨bx, 1, none⟩ = some (.int .i64 fr) := (out_cell ho7 (fun hs => (HS2.out _ hs).2.2 HXB.out) i2'); have HO7 := Lib.hid ho7; have HT1 := Lib.hid hT1; have HT2 := Lib.hid hT2; have HT3 := Lib.hid hT3; clear hm7 ho7 ht7 hT1 hT2 hT3)
                | (go_simp; go_at_call 14; refine HT3.out.mono ?_; rintro e w8 ⟨rfl, hm8, ho8⟩; have j8 : w8.cell? ⟨bx, 1, none⟩ = some (.int .i64 fr) := (out_cell ho8 (fun hs => (HT1.out _ hs).2.2 HXB.out) j7); have HT8 := Lib.hid (HT2.out w8 g' l' hm8 ho8); have HO8 := Lib.hid ho8; clear hm8 ho8)
                | fail)
            go_wp2
            go_meet
            case rel =>
              refine ⟨rfl, g', l', HT8.out.drop, ?_, fun x hx => HLE.out x ?_⟩
              · have := HFL.out
                have := HNL.out
                have := @clampN_le fr f N
                rw [← HLL.out, ← HGG.out, List.length_drop]
                omega
              · rw [← HLL.out] at hx
                exact List.mem_of_mem_drop hx
          · have d0 : (kd == 0) = false := by simpa using h0
            have d1 : (kd == 1) = false := by simpa using h1
            have HTW2 : Hid (Two w (fun _ => False) gm f l gr f l W) := Lib.hid (HT.out.below HWW.out)
            obtain ⟨S, hS1, hS2, hS3⟩ := HTW2.out.left (fun b hb => hb.elim)
            have hget := get_any fr mo W hS1 hF (by rw [HNL.out]; exact hN) HLE.out
            obtain ⟨xs, hxs⟩ : ∃ xs, getL fr mo f l = xs := ⟨_, rfl⟩
            obtain ⟨ok, hok⟩ : ∃ ok, getOK fr f N = ok := ⟨_, rfl⟩
            have hokk : (ok == ok) = true := by simp
            rw [HNL.out, hxs, hok] at hget
            have HGET := Lib.hid hget
            have HXS := Lib.hid hxs
            have HOKK := Lib.hid hok
            clear hS1 hS2 hS3 hget hxs hok
            have HRG : Hid (∀ w5, Below W.heap.size W w5 → ∃ T : Nat → Prop, Calls Try.prog 16 #[.pointer (some ⟨gr, 0, none⟩), .int .i64 fr, .int .i64 mo] w5 (RetGetR T xs ok w5)) := Lib.hid (by
              intro w5 hb5
              obtain ⟨T, hT1, hT2, hT3⟩ := (HTW2.out.below hb5).right (fun b hb => hb.elim)
              have h := refget_any fr mo w5 hT1 hF (by rw [HNL.out]; exact hN)
              rw [HNL.out, HXS.out, HOKK.out] at h
              exact ⟨T, h⟩)
            have hxl : xs.length ≤ 140737488355328 := by have := @getL_len fr mo f l; rw [HXS.out, HNL.out] at this; omega
            have HXM : Hid (∀ x ∈ xs, x.length ≤ 140737488355328) := Lib.hid (fun x hx => by rw [← HXS.out] at hx; exact HLE.out x (getL_mem hx))
            go_upto_region 12 with (first
              | (go_at_call 15; refine HGET.out.mono ?_; rintro e w5 ⟨A5, m5, c5, cells5, rfl, hm5, ho5, hr5, hb5⟩; have HR5 := Lib.hid hr5; have HO5 := Lib.hid ho5; have HM5 := Lib.hid hm5; have h5l : m5 ≤ 140737488355328 := (by omega); clear hr5 ho5 hm5)
              | fail)
            obtain ⟨T, hT3⟩ := HRG.out w5 hb5
            have h5x := HOX.out w5 hb5
            obtain ⟨y0, y1, y2, y3⟩ := h5x
            have HB5 := Lib.hid hb5
            have HT3 := Lib.hid hT3
            clear hb5 hT3
            go_upto_region 14 with (first
              | (go_at_call 16; refine HT3.out.mono ?_; rintro e w6 ⟨A6, m6, c6, cells6, rfl, hm6, ho6, hr6, hb6⟩; have HL := Lib.hid (lists_same w6 ((see_of_get HM5.out HO5.out HR5.out).below hb6) (see_of_getR hm6 ho6 hr6) h5l); have HB6 := Lib.hid hb6; clear hb6 hr6 ho6 hm6)
              | (go_at_call 17; refine HL.out.mono ?_; rintro e w7 ⟨rfl, hb7⟩; have HB7 := Lib.hid hb7; clear hb7)
              | fail)
            obtain ⟨X, hX⟩ : ∃ X : Nat → Prop, X = (fun b => (wr.heap.size ≤ b ∧ b < w5.heap.size) ∧ ∀ ad, A5 = some ad → ad.block ≠ b) := ⟨_, rfl⟩
            have HT5 : Hid (Two w X gm f l gr f l w7) := Lib.hid (by
              have h := (HT.out.fresh (below_step HWW.out HWW.out.size HB5.out))
              obtain ⟨S', T', a1, a2, a3, a4, a5⟩ := h
              refine Two.below (W := w5) ⟨S', T', fun b hb => ⟨(a1 b hb).1, (a1 b hb).2.1, fun hx => (a1 b hb).2.2.1 (by rw [hX] at hx; exact hx.1), (a1 b hb).2.2.2⟩, fun b hb => ⟨(a2 b hb).1, (a2 b hb).2.1, fun hx => (a2 b hb).2.2 (by rw [hX] at hx; exact hx.1)⟩, a3, a4, a5⟩ (below_step HB6.out HB6.out.size HB7.out))
            have HOU : Hid (OuterAt X w7 A5 m5) := Lib.hid ((OuterAt.of HO5.out HR5.out HM5.out (fun b h1 h2 h3 => by rw [hX]; exact ⟨⟨by have := HWW.out.size; omega, h2⟩, h3⟩) (fun ad e hx => by rw [hX] at hx; exact hx.2 ad e rfl) HXM.out).below (below_step HB6.out HB6.out.size HB7.out))
            have HX0 : Hid (∀ b, X b → w.heap.size ≤ b) := Lib.hid (fun b hb => by rw [hX] at hb; have := hb.1.1; have := HBW.out.size; omega)
            have HAK : Hid (∀ W', Two w X gm f l gr f l W' → Alike w gm gr (k + 1) W') := Lib.hid (fun W' h => ⟨f, l, h.drop, by have := HFL.out; omega, HLE.out⟩)
            clear hX HR5 HO5 HGET HRG HT3 HL HB6 HB7 i0 i1 i2 i3 y0 y1 y2 y3
            go_wp2_with fail
            go_loopw [14] (fun s14 wl => ∃ j : Nat, s14 = .int .i64 (j : Int) ∧ j ≤ m5 ∧ Two w X gm f l gr f l wl ∧ OuterAt X wl A5 m5) (fun s14 _ => m5 - (intOf s14).toNat)
            case atStart => exact ⟨0, rfl, Nat.zero_le _, HT5.out, HOU.out⟩
            case round =>
              obtain ⟨j, rfl, hj, htj, hrj⟩ := hrel
              have HTJ := Lib.hid htj
              have HRJ := Lib.hid hrj
              clear htj hrj HT5 HOU
              by_cases hjq : j < m5
              · have hji : (j : Int) < (m5 : Int) := by omega
                obtain ⟨a5, A8, q8, c8, rfl, hc, hr, hq8, hnx⟩ := HRJ.out j hjq
                have HR8 := Lib.hid hr
                have HNX := Lib.hid hnx
                have HC := Lib.hid hc
                clear hr hnx hc
                go_wp2_with fail
                obtain ⟨wo, hwo⟩ : ∃ wo : World, wo = wr := ⟨_, rfl⟩
                subst hwo
                go_loopw [15] (fun s15 wl => ∃ i : Nat, s15 = .int .i64 (i : Int) ∧ i ≤ q8 ∧ Two w X gm f l gr f l wl ∧ OuterAt X wl (some a5) m5 ∧ wl.cell? (a5.add j) = some (.slice A8 q8 c8) ∧ RoomAt X wl A8 q8) (fun s15 _ => q8 - (intOf s15).toNat)
                case atStart => exact ⟨0, rfl, Nat.zero_le _, HTJ.out, HRJ.out, HC.out, HR8.out⟩
                case round =>
                  obtain ⟨i, rfl, hi, hti, hoi, hci, hri⟩ := hrel
                  have HTI := Lib.hid hti
                  have HOI := Lib.hid hoi
                  have HRI := Lib.hid hri
                  have HCI := Lib.hid hci
                  clear hti hoi hri HTJ HRJ HC HR8
                  by_cases hiq : i < q8
                  · have hii : (i : Int) < (q8 : Int) := by omega
                    obtain ⟨a8, rfl, ⟨v, hc⟩, hf, hx⟩ := HRI.out i hiq
                    have HXX := Lib.hid hx
                    have HCC := Lib.hid hc
                    clear hx
                    go_wp2_with fail
                    go_roundw
                    case rel =>
                      have hxb : X (a8.add i).block := by rw [add_blk]; exact HXX.out
                      exact ⟨i + 1, by go_num, hiq, HTI.out.out ((Outside.refl X _).set _ _ (.inr hxb)) HX0.out, HOI.out.set _ _ hxb, by rw [World.cell?_setCell_other _ _ _ _ (fun e => HNX.out (by rw [e, add_blk] at hxb; exact hxb))]; exact HCI.out, HRI.out.set _ _⟩
                    case measure => simp [intOf] <;> omega
                  · have hii : ¬ (i : Int) < (q8 : Int) := by omega
                    go_wp2_with fail
                    go_roundw
                    case rel => exact ⟨j + 1, by go_num, hjq, HTI.out, HOI.out⟩
                    case measure => simp [intOf] <;> omega
              · have hji : ¬ (j : Int) < (m5 : Int) := by omega
                go_wp2_with fail
                go_meet
                case rel => exact ⟨rfl, HAK.out _ HTJ.out⟩
      case rest =>
        obtain ⟨rfl, hal⟩ := hcut
        have HAL := Lib.hid hal
        obtain ⟨f, l, htw, hfl, hle⟩ := hal
        obtain ⟨N, hNl⟩ : ∃ N, l.length = N := ⟨_, rfl⟩
        have hN : N ≤ 140737488355328 := by omega
        have hF : f ≤ 140737488355328 := by omega
        obtain ⟨z, hz⟩ : ∃ z, ((f + N : Nat) : Int) = z := ⟨_, rfl⟩
        obtain ⟨S, T, _, _, hS, hT, _⟩ := htw
        have HS := Lib.hid hS
        have HT := Lib.hid hT
        have hfr : ∀ W', Below wc.heap.size wc W' → W'.cell? ⟨gr, 0, none⟩ = some (.int .i64 (f : Int)) := by
          obtain ⟨A9, c9, cells9, hh, _⟩ := hT
          intro W' hb
          exact (mod_cells ((hb.block gr (Array.getElem?_eq_some_iff.1 hh).1).trans hh)).1
        have HFR := Lib.hid hfr
        have HN1 : Hid (∀ W', Below wc.heap.size wc W' → Calls Try.prog 19 #[.pointer (some ⟨gm, 0, none⟩)] W' fun e w' => e = .returned (.int .i64 z) ∧ Below W'.heap.size W' w') := Lib.hid (fun W' hb => by
          have h := next_any W' (hS.below hb) hF (by omega)
          rw [hNl, hz] at h
          exact h)
        have HN2 : Hid (∀ W', Below wc.heap.size wc W' → Calls Try.prog 20 #[.pointer (some ⟨gr, 0, none⟩)] W' fun e w' => e = .returned (.int .i64 z) ∧ Below W'.heap.size W' w') := Lib.hid (fun W' hb => by
          have h := refnext_any W' (hT.below hb) hF (by omega)
          rw [hNl, hz] at h
          exact h)
        clear hS hT hfr hfl hle hNl hz i0 i1 i2 i3
        go_upto_region 30 with (fail)
        refine wp_region_calm (Later wc) (by kernel_rfl) (by kernel_rfl) (Below.refl _ _).drew (fun hne => ?_)
        have cfr := fun p : InS (Later wc) => HFR.out p.w p.h
        repeat (go_big_quiet_step (first
          | (go_at_call 19; exact calm_of (HN1.out _ (InS.h _)) (by rintro e w' ⟨rfl, hb⟩; exact ⟨rfl, later_step (InS.h _) hb⟩))
          | (go_at_call 20; exact calm_of (HN2.out _ (InS.h _)) (by rintro e w' ⟨rfl, hb⟩; exact ⟨rfl, later_step (InS.h _) hb⟩))
          | (go_at_call 18; exact calm_of (start_any _ (HS.out.below (InS.h _))) (by rintro e w' ⟨rfl, rfl⟩; exact ⟨rfl, InS.h _⟩))
          | fail))
        refine wpQuiet_nil ?_
        rintro _ ⟨p, rfl⟩
        have HAP : Hid (Alike w gm gr (k + 1) p.w) := Lib.hid (by obtain ⟨f, l, h, h'⟩ := HAL.out; exact ⟨f, l, h.below p.h, h'⟩)
        go_wp2_with fail
        go_roundw
        case rel => exact ⟨k + 1, by go_num, hlt, HAP.out⟩
        case measure => simp [intOf] <;> omega
    · have hki : ¬ (k : Int) < (n : Int) := by omega
      have HBE : Hid (Below w.heap.size w wr) := Lib.hid (by obtain ⟨f, l, h, _⟩ := HA.out; exact h.bel)
      go_wp2_with (first
        | (go_at_call 19; refine (next_nil _).mono ?_; rintro e w8 ⟨rfl, hb8⟩; have K8 := Lib.hid (below_step K7.out K7.out.size hb8); clear hb8)
        | (go_at_call 18; refine (start_nil _).mono ?_; rintro e w7 ⟨rfl, hb7⟩; have K7 := Lib.hid (below_step K6.out K6.out.size hb7); clear hb7)
        | (go_at_call 13; refine (trim_nil _ _).mono ?_; rintro e w6 ⟨rfl, hb6⟩; have K6 := Lib.hid (below_step K5.out K5.out.size hb6); clear hb6)
        | (go_at_call 11; refine (put_nil _ _).mono ?_; rintro e w5 ⟨rfl, hb5⟩; have K5 := Lib.hid (below_step (K4.out.alloc K4.out.size _) (K4.out.alloc K4.out.size _).size hb5); clear hb5)
        | (go_at_call 15; refine (get_nil _ _ _).mono ?_; rintro e w4 ⟨rfl, hb4⟩; have K4 := Lib.hid (below_step HBE.out HBE.out.size hb4); clear hb4)
        | fail)
      go_ret
      exact ⟨rfl, K8.out⟩
end Go.Proofs.Ytbnbeailbhnbdaa
