/-
  NetForges: the walk.
-/
import Derived.Test.YtfhmdphcgcmaeaaNetF1
import Derived.Deep.LoopGhost
import Derived.Deep.CutBlock
import Derived.Deep.DeepCutAuto
set_option linter.unusedVariables false
set_option linter.unusedSimpArgs false
namespace Go.Proofs.Ytfhmdphcgcmaeaa
open Go.RowKit

/-- A call: kind, place, letter, servers. -/
abbrev OpV := Int × Int × Lt × List Int
/-- A call as it was handed in. -/
def opSee (w : World) (o : OpV) (cs : List Value) : Prop :=
  ∃ A c B d, cs = [.int .i64 o.1, .int .i64 o.2.1, .int .i64 o.2.2.1.1, .int .i64 o.2.2.1.2.1, .slice A o.2.2.1.2.2.length c, .slice B o.2.2.2.length d] ∧ o.2.2.1.2.2.length ≤ c ∧ o.2.2.1.2.2.length ≤ 140737488351232 ∧ Sees w A (u8s o.2.2.1.2.2) ∧ o.2.2.2.length ≤ d ∧ o.2.2.2.length ≤ 140737488351232 ∧ Sees w B (o.2.2.2.map intV)
def SeenO (w : World) (A : Option Addr) (os : List OpV) : Prop := ∃ cells, Sees w A cells ∧ Recs opSee 6 w os cells
/-- What is known of one call. -/
structure OpAt (w : World) (A : Option Addr) (o : OpV) (k : Nat) (ad : Addr) (A1 : Option Addr) (c1 : Nat) (B1 : Option Addr) (d1 : Nat) : Prop where
  adr : A = some ad
  blk : (ad.add (k * 6)).block < w.heap.size
  e0 : w.cell? (ad.add (k * 6)) = some (.int .i64 o.1)
  e1 : w.cell? ⟨(ad.add (k * 6)).block, (ad.add (k * 6)).off + 1, none⟩ = some (.int .i64 o.2.1)
  e2 : w.cell? ⟨(ad.add (k * 6)).block, (ad.add (k * 6)).off + 2, none⟩ = some (.int .i64 o.2.2.1.1)
  e3 : w.cell? ⟨(ad.add (k * 6)).block, (ad.add (k * 6)).off + 3, none⟩ = some (.int .i64 o.2.2.1.2.1)
  e4 : w.cell? ⟨(ad.add (k * 6)).block, (ad.add (k * 6)).off + 4, none⟩ = some (.slice A1 o.2.2.1.2.2.length c1)
  e5 : w.cell? ⟨(ad.add (k * 6)).block, (ad.add (k * 6)).off + 5, none⟩ = some (.slice B1 o.2.2.2.length d1)
  bc : o.2.2.1.2.2.length ≤ c1
  bl : o.2.2.1.2.2.length ≤ 140737488351232
  bs : Sees w A1 (u8s o.2.2.1.2.2)
  ic : o.2.2.2.length ≤ d1
  il : o.2.2.2.length ≤ 140737488351232
  is : Sees w B1 (o.2.2.2.map intV)
theorem SeenO.at {w : World} {A : Option Addr} {os : List OpV} (h : SeenO w A os) {k : Nat} (hk : k < os.length) : ∃ ad A1 c1 B1 d1, OpAt w A os[k] k ad A1 c1 B1 d1 := by
  obtain ⟨cells, hs, hr⟩ := h
  obtain ⟨cs, hcl, ⟨A1, c1, B1, d1, rfl, h1, h2, h3, h4, h5, h6⟩, hcs⟩ := hr.get (List.getElem?_eq_getElem hk)
  obtain ⟨ad, rfl, h0⟩ := hs (k * 6) _ (hcs 0 _ rfl)
  have hx : ∀ (i : Nat) v, 0 < i → cells[k * 6 + i]? = some v → w.cell? ⟨(ad.add (k * 6)).block, (ad.add (k * 6)).off + i, none⟩ = some v := by
    intro i v hi hv
    obtain ⟨ad', e, hc⟩ := hs (k * 6 + i) _ hv
    cases e
    rw [← add_pos _ i hi, add_at]
    exact hc
  exact ⟨ad, A1, c1, B1, d1, rfl, World.block_lt_of_cell? w _ h0, h0, hx 1 _ (by decide) (hcs 1 _ rfl), hx 2 _ (by decide) (hcs 2 _ rfl), hx 3 _ (by decide) (hcs 3 _ rfl), hx 4 _ (by decide) (hcs 4 _ rfl), hx 5 _ (by decide) (hcs 5 _ rfl), h1, h2, h3, h4, h5, h6⟩
theorem OpAt.later {w w' : World} {A : Option Addr} {o : OpV} {k : Nat} {ad : Addr} {A1 : Option Addr} {c1 : Nat} {B1 : Option Addr} {d1 : Nat} (h : OpAt w A o k ad A1 c1 B1 d1) (hb : Below w.heap.size w w') : OpAt w' A o k ad A1 c1 B1 d1 :=
  have hx : ∀ i v, w.cell? ⟨(ad.add (k * 6)).block, i, none⟩ = some v → w'.cell? ⟨(ad.add (k * 6)).block, i, none⟩ = some v := fun i v hv => (hb.cell (p := ⟨_, i, none⟩) h.blk).trans hv
  ⟨h.adr, Nat.lt_of_lt_of_le h.blk hb.size, (hb.cell h.blk).trans h.e0, hx _ _ h.e1, hx _ _ h.e2, hx _ _ h.e3, hx _ _ h.e4, hx _ _ h.e5, h.bc, h.bl, h.bs.below hb, h.ic, h.il, h.is.below hb⟩
/-- The key: two bytes, joined with the others. -/
theorem key_run {W : World} {A : Option Addr} {bs : List UInt8} {c : Nat} (h : Sees W A (u8s bs)) (x y : UInt8) {g : Nat} (hg : W.heap.size = g) :
    (convert 31 9 (.slice (some ⟨g, 0, none⟩) 2 2)).run Try.prog (W.alloc (.cells #[.int .u8 (x.toNat : Int), .int .u8 (y.toNat : Int)] 5)) = .ok (.string (strB [x, y])) (W.alloc (.cells #[.int .u8 (x.toNat : Int), .int .u8 (y.toNat : Int)] 5)) ∧
    (convert 31 9 (.slice A bs.length c)).run Try.prog (W.alloc (.cells #[.int .u8 (x.toNat : Int), .int .u8 (y.toNat : Int)] 5)) = .ok (.string (strB bs)) (W.alloc (.cells #[.int .u8 (x.toNat : Int), .int .u8 (y.toNat : Int)] 5)) := by
  refine ⟨run_string_sees _ _ _ _ Try.underlying31 Try.underlying5 Try.underlying9 _ _ _ _ rfl ?_, run_string_sees _ _ _ _ Try.underlying31 Try.underlying5 Try.underlying9 _ _ _ _ rfl (h.below ((Below.refl _ _).alloc (Nat.le_refl _) _))⟩
  subst hg
  exact sees_new W _ _
theorem right_small {f t : Int} {bs : List UInt8} (h : rightB (f, t, bs) = true) : ∃ x y : UInt8, f = (x.toNat : Int) ∧ t = (y.toNat : Int) ∧ x.toNat < 16 ∧ y.toNat < 16 ∧ bs.length ≤ 1048576 := by
  obtain ⟨h1, h2⟩ := rightB_servers h
  obtain ⟨n, rfl, hn⟩ := serverB_nat h1
  obtain ⟨m, rfl, hm⟩ := serverB_nat h2
  simp [rightB] at h
  refine ⟨UInt8.ofNat n, UInt8.ofNat m, ?_, ?_, ?_, ?_, h.2.2.2⟩ <;> (rw [UInt8.toNat_ofNat', Nat.mod_eq_of_lt (by omega)])
  · exact hn
  · exact hm
theorem lookL_small {most : Int} {ls : List Lt} (hf : Fit most ls) (k : Int) : ∃ (x y : UInt8) (xb : List UInt8), lookL ls k = ((x.toNat : Int), (y.toNat : Int), xb) ∧ x.toNat < 16 ∧ y.toNat < 16 ∧ xb.length ≤ 1048576 := by
  by_cases h : k < 0 ∨ (ls.length : Int) ≤ k
  · exact ⟨0, 0, [], lookL_none h, by decide, by decide, by simp⟩
  · obtain ⟨j, rfl⟩ : ∃ j : Nat, (j : Int) = k := ⟨k.toNat, by omega⟩
    have hj : j < ls.length := by omega
    have hr := hf.all _ (List.getElem_mem hj)
    rw [lookL_some hj]
    obtain ⟨⟨f, t, bs⟩, hl⟩ : ∃ l, ls[j] = l := ⟨_, rfl⟩
    rw [hl] at hr ⊢
    obtain ⟨x, y, rfl, rfl, h1, h2, h3⟩ := right_small hr
    exact ⟨x, y, bs, rfl, h1, h2, h3⟩
theorem cat_ok (x y : UInt8) {bs : List UInt8} (h : bs.length ≤ 140737488351232) : (strB [x, y]).size + (strB bs).size ≤ 9223372036854775807 := by
  rw [strB_size, strB_size]
  simp
  omega
/-- A block of another kind is as it was. -/
theorem NStep.row {w0 W W' : World} (h : NStep w0 W W') {b : Nat} {cs : Array Value} {t : TypeId} (hb : b < W.heap.size) (hr : W.heap[b]? = some (Obj.cells cs t (0, 0))) (ht : ¬ (t = 61 ∨ t = 33 ∨ t = 5)) : W'.heap[b]? = W.heap[b]? :=
  h.block b hb (fun hk => by
    obtain ⟨_, cs', t', h1, h2⟩ := hk
    rw [hr] at h1
    injection h1 with h1
    injection h1 with _ e
    subst e
    exact ht h2)
theorem CntMap.more {w : World} {b n : Nat} {ls : List Lt} (h : CntMap w b n ls) : CntMap w b (n + 1) ls := by
  obtain ⟨D, h1, h2⟩ := h
  exact ⟨D, h1.mono (Nat.le_succ n), h2⟩
set_option maxHeartbeats 8000000 in
set_option maxRecDepth 100000 in
theorem netForges_any (A : Option Addr) (O : List OpV) (c : Nat) (w : World) (hO : SeenO w A O) (hoc : O.length ≤ c) (hol : O.length ≤ 140737488351232) :
    Calls Try.prog 4 #[.slice A O.length c] w (RetBool w true) := by
  have HO := Lib.hid hO
  clear hO
  have hpn := fun (W : World) (a : Addr) => run_eql_pointer_nil (P := Try.prog) W 24 (some a)
  have hmm := @run_makeMap Try.prog
  go_enter Try.func4, Try.ntmps4
  go_wp2_with fail
  refine (new_ok 1000 w (by decide) (by decide)).mono ?_
  rintro e w1 ⟨rfl, hn1, hb1⟩
  have J1 : WInv w w.heap.size 1000 [] open16 w1 := ⟨hn1, Fit.nil (by decide) (by decide), hb1⟩
  have HJ1 := Lib.hid J1
  clear hn1 hb1 J1
  go_wp2_with (first
    | (go_at_call 9; refine (num_any _ _).mono ?_; rintro e w' ⟨rfl, rfl⟩)
    | (go_at_call 10; refine (knows_any _).mono ?_; rintro e w3 ⟨rfl, hb3⟩; have HJ3 := Lib.hid (HJ1.out.later hb3); clear hb3)
    | fail)
  have hbm : w.heap.size ≤ w3.heap.size := HJ3.out.2.2.size
  have M6 := Lib.hid (CntMap.made w3)
  have HJ6 := Lib.hid (HJ3.out.later ((Below.refl _ _).alloc (Nat.le_refl _) (.map #[] 0)))
  obtain ⟨bm, hbme⟩ : ∃ bm, w3.heap.size = bm := ⟨_, rfl⟩
  rw [hbme] at M6 hbm ⊢
  clear hbme HJ3 HJ1
  go_loopg [6, 7] 300 (fun gk s6 s7 wr => ∃ (k : Nat) (ls : List Lt) (wl : List Bool), s7 = .int .i64 (k : Int) ∧ k ≤ 300 ∧ gk = 300 - k ∧ s6 = .int .i64 (ls.length : Int) ∧ WInv w w.heap.size 1000 ls wl wr ∧ CntMap wr bm k ls)
  case atStart => exact ⟨0, [], open16, rfl, Nat.zero_le _, rfl, rfl, HJ6.out, M6.out⟩
  case round =>
    obtain ⟨k, ls, wl, rfl, hk300, hgk, rfl, hj, hm⟩ := hrel
    have HGK := Lib.hid hgk
    have HJ := Lib.hid hj
    have HM := Lib.hid hm
    clear hgk hj hm HJ6 M6
    by_cases hk : k < O.length ∧ k < 300
    · obtain ⟨hkl, hk1⟩ := hk
      have hki1 : (k : Int) < (O.length : Int) := by omega
      have hki2 : (k : Int) < 300 := by omega
      obtain ⟨ad, A1, c1, B1, d1, hop⟩ := HO.out.at hkl
      have hop' := hop.later HJ.out.2.2
      obtain ⟨o, ho⟩ : ∃ o, O[k] = o := ⟨_, rfl⟩
      rw [ho] at hop hop'
      obtain rfl := hop.adr
      have HOP := Lib.hid hop
      have HOR := Lib.hid hop'
      have q0 := hop'.e0
      have q1 := hop'.e1
      have q2 := hop'.e2
      have q3 := hop'.e3
      have q4 := hop'.e4
      have q5 := hop'.e5
      obtain ⟨kd, ok, lo, idl⟩ := o
      obtain ⟨of, ot, ob⟩ := lo
      simp only at q0 q1 q2 q3 q4 q5
      clear hop hop' ho
      have HJB := HJ.out.later ((Below.refl wr.heap.size wr).alloc (Nat.le_refl _) (.cells #[.int .i64 kd, .int .i64 ok, .int .i64 of, .int .i64 ot, .slice A1 ob.length c1, .slice B1 idl.length d1] 45))
      have hlk := HJB.look ok
      obtain ⟨x, y, xb, hx, hx16, hy16, hxb⟩ := lookL_small HJ.out.2.1 ok
      rw [hx] at hlk
      have HLK := Lib.hid hlk
      have HX := Lib.hid hx
      clear hlk hx HJB
      go_upto_region 11 with (first
        | (go_at_call 16; refine HLK.out.mono ?_; rintro e w4 ⟨A4, c4, rfl, hown4, hb4⟩)
        | fail)
      have sx4 := (sees_own' hown4).2.2.2
      have hba4 := (Below.refl w4.heap.size w4).alloc (Nat.le_refl _) (.cells #[.int .i64 (x.toNat : Int), .int .i64 (y.toNat : Int), .slice A4 xb.length c4] 33)
      have kr := key_run (c := c4) (sx4.below hba4) x y (g := w4.heap.size + 1) (by simp)
      obtain ⟨kr1, kr2⟩ := kr
      have hcat := cat_ok x y (bs := xb) (by omega)
      have hlB := (Below.refl wr.heap.size wr).alloc (Nat.le_refl _) (.cells #[.int .i64 kd, .int .i64 ok, .int .i64 of, .int .i64 ot, .slice A1 ob.length c1, .slice B1 idl.length d1] 45)
      have xo := (hb4.block wr.heap.size (by simp)).trans (heap_alloc_new wr (.cells #[.int .i64 kd, .int .i64 ok, .int .i64 of, .int .i64 ot, .slice A1 ob.length c1, .slice B1 idl.length d1] 45))
      have xx := heap_alloc_new w4 (.cells #[.int .i64 (x.toNat : Int), .int .i64 (y.toNat : Int), .slice A4 xb.length c4] 33)
      have hz4 := hb4.size
      have XO := Lib.hid xo
      have XX := Lib.hid xx
      have SX4 := Lib.hid sx4
      have HB4 := Lib.hid (below_step hlB hlB.size hb4)
      have HZ4 := Lib.hid hz4
      have HOW4 := Lib.hid hown4
      clear hown4 hb4 sx4 hba4 hlB xo xx hz4
      go_upto_region 12 with (fail)
      rw [strB_append]
      clear kr1 kr2 hcat
      obtain ⟨W5, hW5⟩ : ∃ W5, (w4.alloc (.cells #[.int .i64 (x.toNat : Int), .int .i64 (y.toNat : Int), .slice A4 xb.length c4] 33)).alloc (.cells #[.int .u8 (x.toNat : Int), .int .u8 (y.toNat : Int)] 5) = W5 := ⟨_, rfl⟩
      rw [hW5]
      have hb45 : Below w4.heap.size w4 W5 := by rw [← hW5]; exact ((Below.refl _ _).alloc (Nat.le_refl _) _).alloc (by simp) _
      have HL5 : Hid (Later wr W5) := Lib.hid (later_step HB4.out hb45)
      have HXO5 : Hid (W5.heap[wr.heap.size]? = _) := Lib.hid ((hb45.block wr.heap.size (Array.getElem?_eq_some_iff.1 XO.out).1).trans XO.out)
      have HXX5 : Hid (W5.heap[w4.heap.size]? = some (.cells #[.int .i64 (x.toNat : Int), .int .i64 (y.toNat : Int), .slice A4 xb.length c4] 33 (0, 0))) := Lib.hid (by rw [← hW5]; exact (Below.heap_alloc _ _ _ (by simp)).trans XX.out)
      have HSX5 := Lib.hid (SX4.out.below hb45)
      have HZW : Hid (wr.heap.size ≤ w4.heap.size) := Lib.hid HB4.out.size
      have hown5 := own_keep HOW4.out hb45
      have HXS : Hid (∀ w6, FStep w wr W5 w6 → Sees w6 A4 (u8s xb)) := Lib.hid (fun w6 hs => (sees_own' (own_same hown5 (fun b hb => hs.far (by have := (own_block_ge hown5 b hb).1; simp at this; omega) (own_block_ge hown5 b hb).2))).2.2.2)
      have HJ5 := Lib.hid (HJ.out.later HL5.out)
      have HM5 := Lib.hid (HM.out.later HL5.out)
      have b0 := cell_of_row _ _ 0 _ _ _ HXO5.out
      have b1 := cell_of_row _ _ 1 _ _ _ HXO5.out
      have b2 := cell_of_row _ _ 2 _ _ _ HXO5.out
      have b3 := cell_of_row _ _ 3 _ _ _ HXO5.out
      have b4 := cell_of_row _ _ 4 _ _ _ HXO5.out
      have b5 := cell_of_row _ _ 5 _ _ _ HXO5.out
      simp at b0 b1 b2 b3 b4 b5
      have hkbl : (x :: y :: xb).length ≤ maxLen := by simp only [maxLen, List.length_cons] <;> omega
      have HKB := Lib.hid hkbl
      have hlb : ls.length ≤ 1000 := by have := HJ.out.2.1.len; omega
      clear hW5 hb45 hown5 HOW4 XO XX SX4 HB4 q0 q1 q2 q3 q4 q5 hkbl
      have HFS : Hid (∀ w6, FStep w wr W5 w6 → Sees w6 A4 (u8s xb)) := Lib.hid (fun w6 hs => HXS.out w6 hs)
      by_cases h0 : kd = 0
      · subst h0
        have hs1 := HOR.out.bs.below HL5.out
        have HS1 : Hid (Sees W5 A1 (u8s ob)) := Lib.hid hs1
        have hbc : ob.length ≤ c1 := HOR.out.bc
        have hbl : ob.length ≤ 140737488351232 := HOR.out.bl
        clear hs1
        by_cases hs : sendE 1000 ls.length (of, ot, ob) = 0
        · obtain ⟨hr, hlt⟩ := sendE_ok hs
          obtain ⟨x2, y2, rfl, rfl, hx2, hy2, hob⟩ := right_small hr
          have hkb : kb ((x2.toNat : Int), (y2.toNat : Int), ob) = x2 :: y2 :: ob := by simp [kb]
          have hkl2 : (x2 :: y2 :: ob).length ≤ maxLen := by simp only [maxLen, List.length_cons] <;> omega
          obtain ⟨l, hll⟩ : ∃ l : Lt, l = ((x2.toNat : Int), (y2.toNat : Int), ob) := ⟨_, rfl⟩
          rw [← hll] at hkb hs
          have hsn : sendN 1000 ls l = ls ++ [l] := if_pos hs
          have hsame := cntM_snoc_same ls l
          have hoth := cntM_snoc_other ls l
          rw [hkb] at hsame hoth
          obtain ⟨ls2, hl2⟩ : ∃ ls2, ls ++ [l] = ls2 := ⟨_, rfl⟩
          rw [hl2] at hsn hsame hoth
          have hlen2 : ls2.length = ls.length + 1 := by rw [← hl2]; simp
          have hcb := cnt_le ls (x2 :: y2 :: ob)
          have HS := Lib.hid hs
          have HSN := Lib.hid hsn
          have HSM := Lib.hid hsame
          have HOT := Lib.hid hoth
          have HKB2 := Lib.hid hkl2
          have HLL := Lib.hid hll
          have hle1 : ls2.length ≤ ls.length + 1 := by omega
          have hle2 : ls.length + 1 ≤ ls2.length := by omega
          clear hs hsn hsame hoth hkl2 hll hl2 hr hlt hkb hlen2
          go_wp2_with (first
            | (go_at_call 12; refine (lawOwn_any _ _ A1 ob c1 _ hbc hbl HS1.out).mono ?_; rintro e w6 ⟨A6, c6, rfl, hown6, hb6⟩; have so6 := sees_own' hown6; have SO6 := Lib.hid so6.2; have HJ6 := Lib.hid (HJ5.out.later hb6); have HM6 := Lib.hid (HM5.out.later hb6); have HXO6 := Lib.hid ((hb6.block _ (Array.getElem?_eq_some_iff.1 HXO5.out).1).trans HXO5.out); clear so6 hown6 hb6)
            | (go_at_call 11; refine (HJ6.out.send _ _ A6 ob c6 SO6.out.1 (by omega) SO6.out.2.2).mono ?_; rintro e w7 ⟨rfl, hj7, hs7⟩; rw [← HLL.out, HSN.out] at hj7; rw [← HLL.out, HS.out]; have hxo7 := (hs7.row (Array.getElem?_eq_some_iff.1 HXO6.out).1 HXO6.out (by decide)).trans HXO6.out; have d2 := cell_of_row _ _ 2 _ _ _ hxo7; have d3 := cell_of_row _ _ 3 _ _ _ hxo7; have d4 := cell_of_row _ _ 4 _ _ _ hxo7; simp at d2 d3 d4; have kr := key_run (W := w7) (c := c1) ((HOP.out.bs).below hj7.2.2) x2 y2 rfl; have kr1 := kr.1; have kr2 := kr.2; have hcat := cat_ok x2 y2 hbl; have hla := (Below.refl w7.heap.size w7).alloc (Nat.le_refl _) (.cells #[.int .u8 (x2.toNat : Int), .int .u8 (y2.toNat : Int)] 5); have HJ7 := Lib.hid (hj7.later hla); have hM7 := (HM6.out.nstep hs7).later hla; have HM7 := Lib.hid hM7; have hap : strB [x2, y2] ++ strB ob = strB (x2 :: y2 :: ob) := strB_append [x2, y2] ob; have hg7 := CntMap.get hM7 HKB2.out; have d4' := (hla.cell (p := ⟨wr.heap.size, 4, none⟩) (World.block_lt_of_cell? _ _ d4)).trans d4; clear hj7 hs7 hxo7 hla hM7)
            | (go_at_call 9; refine (num_any _ _).mono ?_; rintro e w' ⟨rfl, rfl⟩)
            | (at_mapUpdate; refine wpList_mapUpdate_at rfl _ _ _ 42 rfl strKeyed Try.underlying42 rfl HM7.out (by unfold maxLen; omega) _ _ (.string (x2 :: y2 :: ob)) (.int .i64 ((cnt ls (x2 :: y2 :: ob) : Int) + 1)) rfl rfl (keyOf_strB HKB2.out) trivial (plainElem_int Try.underlying3 (WalkArith.wf_i64 (by omega))) (cntM ls2) HSM.out (fun kl' h1 h2 => HOT.out kl' h1 h2) ?_; intro w8 hM8 hg8; have HM8 := Lib.hid hM8; have HJ9 := Lib.hid (HJ7.out.mapped HM7.out hbm hg8); clear hM8 hg8)
            | (go_at_call 15; refine HJ9.out.length.mono ?_; rintro e w' ⟨rfl, rfl⟩)
            | fail)
          go_roundg (300 - (k + 1))
          case measure => have := HGK.out; omega
          case rel => exact ⟨k + 1, ls2, wl, by go_num, by omega, rfl, by first | rfl | (congr 1; omega), HJ9.out, HM8.out⟩
        · obtain ⟨z, hz⟩ : ∃ z, sendE 1000 ls.length (of, ot, ob) = z := ⟨_, rfl⟩
          rw [hz] at hs
          have hz0 : (z == 0) = false := by simpa using hs
          have hsn : sendN 1000 ls (of, ot, ob) = ls := if_neg (by rw [hz]; exact hs)
          have HS := Lib.hid hz
          have HSN := Lib.hid hsn
          clear hs hz hsn
          go_wp2_with (first
            | (go_at_call 12; refine (lawOwn_any _ _ A1 ob c1 _ hbc hbl HS1.out).mono ?_; rintro e w6 ⟨A6, c6, rfl, hown6, hb6⟩; have so6 := sees_own' hown6; have SO6 := Lib.hid so6.2; have HJ6 := Lib.hid (HJ5.out.later hb6); have HM6 := Lib.hid (HM5.out.later hb6); clear so6 hown6 hb6)
            | (go_at_call 11; refine (HJ6.out.send _ _ A6 ob c6 SO6.out.1 (by omega) SO6.out.2.2).mono ?_; rintro e w7 ⟨rfl, hj7, hs7⟩; rw [HSN.out] at hj7; rw [HS.out]; have HJ9 := Lib.hid hj7; have HM9 := Lib.hid (CntMap.more (HM6.out.nstep hs7)); clear hj7 hs7)
            | (go_at_call 9; refine (num_any _ _).mono ?_; rintro e w' ⟨rfl, rfl⟩)
            | (go_at_call 15; refine HJ9.out.length.mono ?_; rintro e w' ⟨rfl, rfl⟩)
            | fail)
          go_roundg (300 - (k + 1))
          case measure => have := HGK.out; omega
          case rel => exact ⟨k + 1, ls, wl, by go_num, by omega, rfl, by first | rfl | (congr 1; omega), HJ9.out, HM9.out⟩
      by_cases h1 : kd = 1
      · subst h1
        clear h0
        by_cases he : takeE wl ls ok = 0
        · have hat : atE ok ls.length = 0 := by
            unfold takeE at he
            split at he
            · assumption
            · exact absurd he (by assumption)
          obtain ⟨j, hjk, hjl, hlj⟩ := lookL_right HJ.out.2.1 hat
          have hx2 : ls[j] = ((x.toNat : Int), (y.toNat : Int), xb) := hlj.symm.trans HX.out
          have hkb : kb ls[j] = x :: y :: xb := by rw [hx2]; simp [kb]
          have tl : takeL wl ls ok = ((x.toNat : Int), (y.toNat : Int), xb) := by unfold takeL; rw [if_pos he]; exact HX.out
          have tn : takeN wl ls ok = ls.eraseIdx j := by unfold takeN; rw [if_pos he, ← hjk, Int.toNat_natCast]
          have hT := HJ.out.take_far HL5.out ok
          rw [he, tl, tn] at hT
          have hsame := cntM_erase_same hjl
          have hoth := cntM_erase_other hjl
          have hpos := cnt_pos hjl
          rw [hkb] at hsame hoth hpos
          obtain ⟨ls2, hl2⟩ : ∃ ls2, ls.eraseIdx j = ls2 := ⟨_, rfl⟩
          have hlen2 : ls2.length + 1 = ls.length := by rw [← hl2, List.length_eraseIdx, if_pos hjl]; omega
          rw [hl2] at hT hsame hoth
          have hcb := cnt_le ls (x :: y :: xb)
          have hpos' : (1 : Int) ≤ (cnt ls (x :: y :: xb) : Int) := by omega
          have HT := Lib.hid hT
          have HSM := Lib.hid hsame
          have HOT := Lib.hid hoth
          have hle1 : ls2.length + 1 ≤ ls.length := by omega
          have hle2 : ls.length ≤ ls2.length + 1 := by omega
          clear he hjk hlj hx2 hkb tl tn hT hsame hoth hl2 hlen2 hpos
          go_wp2_with (first
            | (go_at_call 13; refine HT.out.mono ?_; rintro e w6 ⟨⟨A6, c6, rfl, hown6⟩, hj6, hs6⟩; have x6 := (hs6.far HZW.out (Array.getElem?_eq_some_iff.1 HXX5.out).1).trans HXX5.out; have hla := (Below.refl w6.heap.size w6).alloc (Nat.le_refl _) (.cells #[.int .i64 (x.toNat : Int), .int .i64 (y.toNat : Int), .slice A6 xb.length c6] 33); have y6 := (hla.block _ (Array.getElem?_eq_some_iff.1 x6).1).trans x6; have d0 := cell_of_row _ _ 0 _ _ _ y6; have d1 := cell_of_row _ _ 1 _ _ _ y6; have d2 := cell_of_row _ _ 2 _ _ _ y6; simp at d0 d1 d2; have HJ7 := Lib.hid (hj6.later hla); have hM7 := MapAt.later (MapAt.fstep HM.out HL5.out hs6) hla; have HM7 : Hid (CntMap _ bm k ls) := Lib.hid hM7; have hg7 := CntMap.get hM7 HKB.out; have sy := (sees_own' hown6).2.2.2.below hla; have sx := (HFS.out _ hs6).below hla; have k1 := run_string_sees (P := Try.prog) _ _ _ _ Try.underlying31 Try.underlying5 Try.underlying9 A6 xb.length c6 xb rfl sy; have k2 := run_string_sees (P := Try.prog) _ _ _ _ Try.underlying31 Try.underlying5 Try.underlying9 A4 xb.length c4 xb rfl sx; clear hown6 hj6 hs6 x6 hla y6 hM7 sy sx)
            | (go_at_call 9; refine (num_any _ _).mono ?_; rintro e w' ⟨rfl, rfl⟩)
            | (at_mapUpdate; refine wpList_mapUpdate_at rfl _ _ _ 42 rfl strKeyed Try.underlying42 rfl HM7.out (by unfold maxLen; omega) _ _ (.string (x :: y :: xb)) (.int .i64 ((cnt ls (x :: y :: xb) : Int) - 1)) rfl rfl (keyOf_strB HKB.out) trivial (plainElem_int Try.underlying3 (WalkArith.wf_i64 (by omega))) (cntM ls2) HSM.out (fun kl' h1 h2 => HOT.out kl' h1 h2) ?_; intro w8 hM8 hg8; have HM8 := Lib.hid hM8; have HJ9 := Lib.hid (HJ7.out.mapped HM7.out hbm hg8); clear hM8 hg8)
            | (go_at_call 15; refine HJ9.out.length.mono ?_; rintro e w' ⟨rfl, rfl⟩)
            | fail)
          go_roundg (300 - (k + 1))
          case measure => have := HGK.out; omega
          case rel => exact ⟨k + 1, ls2, wl, by go_num, by omega, rfl, by first | rfl | (congr 1; omega), HJ9.out, HM8.out⟩
        · obtain ⟨z, hz⟩ : ∃ z, takeE wl ls ok = z := ⟨_, rfl⟩
          have tn : takeN wl ls ok = ls := by unfold takeN; rw [if_neg he]
          have hT := HJ5.out.take ok
          rw [hz, tn] at hT
          rw [hz] at he
          have hz0 : (z == 0) = false := by simpa using he
          have HT := Lib.hid hT
          clear hT tn he hz
          go_wp2_with (first
            | (go_at_call 13; refine HT.out.mono ?_; rintro e w6 ⟨⟨A6, c6, rfl, hown6⟩, hj6, hs6⟩; have hla := (Below.refl w6.heap.size w6).alloc (Nat.le_refl _) (.cells #[.int .i64 (takeL wl ls ok).1, .int .i64 (takeL wl ls ok).2.1, .slice A6 (takeL wl ls ok).2.2.length c6] 33); have HJ9 := Lib.hid (hj6.later hla); have HM9 := Lib.hid (CntMap.more (MapAt.later (MapAt.nstep HM5.out hs6) hla)); clear hown6 hj6 hs6 hla)
            | (go_at_call 9; refine (num_any _ _).mono ?_; rintro e w' ⟨rfl, rfl⟩)
            | (go_at_call 15; refine HJ9.out.length.mono ?_; rintro e w' ⟨rfl, rfl⟩)
            | fail)
          go_roundg (300 - (k + 1))
          case measure => have := HGK.out; omega
          case rel => exact ⟨k + 1, ls, wl, by go_num, by omega, rfl, by first | rfl | (congr 1; omega), HJ9.out, HM9.out⟩
      by_cases h2 : kd = 2
      · subst h2
        clear h0 h1
        by_cases hat : atE ok ls.length = 0
        · obtain ⟨j, hjk, hjl, hlj⟩ := lookL_right HJ.out.2.1 hat
          have hx2 : ls[j] = ((x.toNat : Int), (y.toNat : Int), xb) := hlj.symm.trans HX.out
          have hkb : kb ls[j] = x :: y :: xb := by rw [hx2]; simp [kb]
          have hT := HJ5.out.lose ok
          rw [if_pos hat, hat, ← hjk, Int.toNat_natCast, hjk] at hT
          have hsame := cntM_erase_same hjl
          have hoth := cntM_erase_other hjl
          rw [hkb] at hsame hoth
          obtain ⟨ls2, hl2⟩ : ∃ ls2, ls.eraseIdx j = ls2 := ⟨_, rfl⟩
          have hlen2 : ls2.length + 1 = ls.length := by rw [← hl2, List.length_eraseIdx, if_pos hjl]; omega
          rw [hl2] at hT hsame hoth
          have hcb := cnt_le ls (x :: y :: xb)
          have HT := Lib.hid hT
          have HSM := Lib.hid hsame
          have HOT := Lib.hid hoth
          have hle1 : ls2.length + 1 ≤ ls.length := by omega
          have hle2 : ls.length ≤ ls2.length + 1 := by omega
          clear hjk hlj hx2 hkb hT hsame hoth hl2 hlen2
          go_wp2_with (first
            | (go_at_call 17; refine HT.out.mono ?_; rintro e w6 ⟨rfl, hj6, hs6⟩; have HJ7 := Lib.hid hj6; have hM7 := MapAt.nstep HM5.out hs6; have HM7 : Hid (CntMap _ bm k ls) := Lib.hid hM7; have hg7 := CntMap.get hM7 HKB.out; clear hj6 hs6 hM7)
            | (go_at_call 9; refine (num_any _ _).mono ?_; rintro e w' ⟨rfl, rfl⟩)
            | (at_mapUpdate; refine wpList_mapUpdate_at rfl _ _ _ 42 rfl strKeyed Try.underlying42 rfl HM7.out (by unfold maxLen; omega) _ _ (.string (x :: y :: xb)) (.int .i64 ((cnt ls (x :: y :: xb) : Int) - 1)) rfl rfl (keyOf_strB HKB.out) trivial (plainElem_int Try.underlying3 (WalkArith.wf_i64 (by omega))) (cntM ls2) HSM.out (fun kl' h1 h2 => HOT.out kl' h1 h2) ?_; intro w8 hM8 hg8; have HM8 := Lib.hid hM8; have HJ9 := Lib.hid (HJ7.out.mapped HM7.out hbm hg8); clear hM8 hg8)
            | (go_at_call 15; refine HJ9.out.length.mono ?_; rintro e w' ⟨rfl, rfl⟩)
            | fail)
          go_roundg (300 - (k + 1))
          case measure => have := HGK.out; omega
          case rel => exact ⟨k + 1, ls2, wl, by go_num, by omega, rfl, by first | rfl | (congr 1; omega), HJ9.out, HM8.out⟩
        · obtain ⟨z, hz⟩ : ∃ z, atE ok ls.length = z := ⟨_, rfl⟩
          have hT := HJ5.out.lose ok
          rw [if_neg hat, hz] at hT
          rw [hz] at hat ⊢
          have hz0 : (z == 0) = false := by simpa using hat
          have HT := Lib.hid hT
          clear hT hat hz
          go_wp2_with (first
            | (go_at_call 17; refine HT.out.mono ?_; rintro e w6 ⟨rfl, hj6, hs6⟩; have HJ9 := Lib.hid hj6; have HM9 := Lib.hid (CntMap.more (MapAt.nstep HM5.out hs6)); clear hj6 hs6)
            | (go_at_call 9; refine (num_any _ _).mono ?_; rintro e w' ⟨rfl, rfl⟩)
            | (go_at_call 15; refine HJ9.out.length.mono ?_; rintro e w' ⟨rfl, rfl⟩)
            | fail)
          go_roundg (300 - (k + 1))
          case measure => have := HGK.out; omega
          case rel => exact ⟨k + 1, ls, wl, by go_num, by omega, rfl, by first | rfl | (congr 1; omega), HJ9.out, HM9.out⟩
      by_cases h3 : kd = 3
      · subst h3
        clear h0 h1 h2
        by_cases hd : doubleE 1000 ls ok = 0
        · have hT := HJ5.out.double ok
          have hdn : doubleN 1000 ls ok = ls ++ [((x.toNat : Int), (y.toNat : Int), xb)] := by unfold doubleN; rw [if_pos hd, HX.out]
          rw [hd, hdn] at hT
          have hkb : kb ((x.toNat : Int), (y.toNat : Int), xb) = x :: y :: xb := by simp [kb]
          have hsame := cntM_snoc_same ls ((x.toNat : Int), (y.toNat : Int), xb)
          have hoth := cntM_snoc_other ls ((x.toNat : Int), (y.toNat : Int), xb)
          rw [hkb] at hsame hoth
          obtain ⟨ls2, hl2⟩ : ∃ ls2, ls ++ [((x.toNat : Int), (y.toNat : Int), xb)] = ls2 := ⟨_, rfl⟩
          have hlen2 : ls2.length = ls.length + 1 := by rw [← hl2]; simp
          rw [hl2] at hT hsame hoth
          have hcb := cnt_le ls (x :: y :: xb)
          have HT := Lib.hid hT
          have HSM := Lib.hid hsame
          have HOT := Lib.hid hoth
          have hle1 : ls2.length ≤ ls.length + 1 := by omega
          have hle2 : ls.length + 1 ≤ ls2.length := by omega
          clear hdn hkb hT hsame hoth hl2 hlen2 hd
          go_wp2_with (first
            | (go_at_call 18; refine HT.out.mono ?_; rintro e w6 ⟨rfl, hj6, hs6⟩; have HJ7 := Lib.hid hj6; have hM7 := MapAt.nstep HM5.out hs6; have HM7 : Hid (CntMap _ bm k ls) := Lib.hid hM7; have hg7 := CntMap.get hM7 HKB.out; clear hj6 hs6 hM7)
            | (go_at_call 9; refine (num_any _ _).mono ?_; rintro e w' ⟨rfl, rfl⟩)
            | (at_mapUpdate; refine wpList_mapUpdate_at rfl _ _ _ 42 rfl strKeyed Try.underlying42 rfl HM7.out (by unfold maxLen; omega) _ _ (.string (x :: y :: xb)) (.int .i64 ((cnt ls (x :: y :: xb) : Int) + 1)) rfl rfl (keyOf_strB HKB.out) trivial (plainElem_int Try.underlying3 (WalkArith.wf_i64 (by omega))) (cntM ls2) HSM.out (fun kl' h1 h2 => HOT.out kl' h1 h2) ?_; intro w8 hM8 hg8; have HM8 := Lib.hid hM8; have HJ9 := Lib.hid (HJ7.out.mapped HM7.out hbm hg8); clear hM8 hg8)
            | (go_at_call 15; refine HJ9.out.length.mono ?_; rintro e w' ⟨rfl, rfl⟩)
            | fail)
          go_roundg (300 - (k + 1))
          case measure => have := HGK.out; omega
          case rel => exact ⟨k + 1, ls2, wl, by go_num, by omega, rfl, by first | rfl | (congr 1; omega), HJ9.out, HM8.out⟩
        · obtain ⟨z, hz⟩ : ∃ z, doubleE 1000 ls ok = z := ⟨_, rfl⟩
          have hT := HJ5.out.double ok
          have hdn : doubleN 1000 ls ok = ls := by unfold doubleN; rw [if_neg hd]
          rw [hdn, hz] at hT
          rw [hz] at hd
          have hz0 : (z == 0) = false := by simpa using hd
          have HT := Lib.hid hT
          clear hT hd hz hdn
          go_wp2_with (first
            | (go_at_call 18; refine HT.out.mono ?_; rintro e w6 ⟨rfl, hj6, hs6⟩; have HJ9 := Lib.hid hj6; have HM9 := Lib.hid (CntMap.more (MapAt.nstep HM5.out hs6)); clear hj6 hs6)
            | (go_at_call 9; refine (num_any _ _).mono ?_; rintro e w' ⟨rfl, rfl⟩)
            | (go_at_call 15; refine HJ9.out.length.mono ?_; rintro e w' ⟨rfl, rfl⟩)
            | fail)
          go_roundg (300 - (k + 1))
          case measure => have := HGK.out; omega
          case rel => exact ⟨k + 1, ls, wl, by go_num, by omega, rfl, by first | rfl | (congr 1; omega), HJ9.out, HM9.out⟩
      by_cases h4 : kd = 4
      · subst h4
        clear h0 h1 h2 h3
        obtain ⟨wl2, hwl⟩ : ∃ wl2, (if wallE idl = 0 then wallL idl else wl) = wl2 := ⟨_, rfl⟩
        have hT := HJ5.out.wall B1 d1 idl HOR.out.ic (by have : idl.length ≤ 140737488351232 := HOR.out.il; omega) (HOR.out.is.below HL5.out)
        rw [hwl] at hT
        have HT := Lib.hid hT
        clear hT hwl
        go_wp2_with (first
          | (go_at_call 19; refine HT.out.mono ?_; rintro e w6 ⟨rfl, hj6, hs6⟩; have HJ9 := Lib.hid hj6; have HM9 := Lib.hid (CntMap.more (MapAt.nstep HM5.out hs6)); clear hj6 hs6)
          | (go_at_call 15; refine HJ9.out.length.mono ?_; rintro e w' ⟨rfl, rfl⟩)
          | fail)
        go_roundg (300 - (k + 1))
        case measure => have := HGK.out; omega
        case rel => exact ⟨k + 1, ls, wl2, by go_num, by omega, rfl, by first | rfl | (congr 1; omega), HJ9.out, HM9.out⟩
      have HJ9 := HJ5
      have HM9 := Lib.hid (CntMap.more HM5.out)
      have n0 : (kd == 0) = false := by simpa using h0
      have n1 : (kd == 1) = false := by simpa using h1
      have n2 : (kd == 2) = false := by simpa using h2
      have n3 : (kd == 3) = false := by simpa using h3
      have n4 : (kd == 4) = false := by simpa using h4
      go_wp2_with (first
        | (go_at_call 15; refine HJ9.out.length.mono ?_; rintro e w' ⟨rfl, rfl⟩)
        | fail)
      go_roundg (300 - (k + 1))
      case measure => have := HGK.out; omega
      case rel => exact ⟨k + 1, ls, wl, by go_num, by omega, rfl, by first | rfl | (congr 1; omega), HJ9.out, HM9.out⟩
    · have hex : ¬ ((k : Int) < (O.length : Int)) ∨ ((k : Int) < (O.length : Int) ∧ ¬ ((k : Int) < 300)) := by omega
      rcases hex with hki1 | ⟨hki1, hki2⟩
      all_goals
        go_wp2
        go_ret
        exact ⟨rfl, HJ.out.2.2⟩
end Go.Proofs.Ytfhmdphcgcmaeaa
