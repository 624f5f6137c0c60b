/-
  HistoryMade: the walk.
-/
import Derived.Test.YtbnbeailbhnbdaaMade1
import Derived.Test.YtbnbeailbhnbdaaTime
import Derived.Deep.LoopGhost
import Derived.Deep.CutBlock
import Derived.Deep.CutRange
import Derived.Deep.DeepCutAuto
import Derived.Deep.RegionHeld3
set_option linter.unusedVariables false
set_option linter.unusedSimpArgs false
namespace Go.Proofs.Ytbnbeailbhnbdaa
open Go.RowKit

theorem cells4 {W : World} {b : Nat} {v0 v1 v2 v3 : Value} {ty : TypeId} (h : W.heap[b]? = some (.cells #[v0, v1, v2, v3] ty (0, 0))) :
    W.cell? ⟨b, 0, none⟩ = some v0 ∧ W.cell? ⟨b, 1, none⟩ = some v1 ∧ W.cell? ⟨b, 2, none⟩ = some v2 ∧ W.cell? ⟨b, 3, none⟩ = some v3 :=
  ⟨by rw [cell_of_row _ _ 0 _ _ _ h]; rfl, by rw [cell_of_row _ _ 1 _ _ _ h]; rfl, by rw [cell_of_row _ _ 2 _ _ _ h]; rfl, by rw [cell_of_row _ _ 3 _ _ _ h]; rfl⟩
theorem made_new (w : World) (os : List OpM) (ws : List Int) : MadeI w (madeL os ws 0) w.heap.size (opM os 0).1 (opM os 0).2 none 0 none 0 (fun b => b = w.heap.size) [] (w.alloc (.cells #[.int .i64 0, .slice none 0 0] TM)) ∧ OrdI w 0 none 0 (fun b => b = w.heap.size) (w.alloc (.cells #[.int .i64 0, .slice none 0 0] TM)) := by
  refine ⟨⟨⟨rfl, .inl ⟨rfl, rfl⟩⟩, rfl, (fun j x y hx => by simp [madeL] at hx), (fun y hy => by cases hy), (fun b hb => by simp [Value.ownBlock] at hb), ⟨none, 0, [], heap_alloc_new w _, rfl, ⟨rfl, .inl ⟨rfl, rfl⟩⟩, (fun b hb => by simp [Value.ownBlock] at hb), Recs.nil⟩, ?_, (Below.refl _ _).alloc (Nat.le_refl _) _⟩, ⟨rfl, .inl ⟨rfl, rfl⟩⟩, (fun b hb => by simp [Value.ownBlock] at hb)⟩
  rintro b rfl
  exact ⟨Nat.le_refl _, by simp⟩
theorem infoIntM : (Try.prog.info? 3).map (fun i => (i.zero, i.size, i.bytes)) = some (some (.int .i64 0), 1, 8) := by kernel_rfl
theorem MadeI.order {w W : World} {xs : List Full} {gr f c3 c4 c7 k : Nat} {l : List (List UInt8)} {A3 A4 A7 : Option Addr} {T : Nat → Prop} {ys : List Full} (h : MadeI w xs gr f l A3 c3 A4 c4 T ys W) (h2 : OrdI w k A7 c7 T W) : MadeI w xs gr f l A3 c3 A7 c7 T ys W :=
  ⟨h.row, h.len, h.same, h.see, h.far3, h.mdl, h.low, h.bel⟩
theorem made_chain {os : List OpM} {ws : List Int} {k : Nat} {ys zs : List Full} (h1 : ∀ (j : Nat) (x y : Full), (madeL os ws k)[j]? = some x → ys[j]? = some y → SameF x y) (l1 : ys.length = (madeL os ws k).length) (h2 : ∀ (j : Nat) (x y : Full), ys[j]? = some x → zs[j]? = some y → SameF x y) (l2 : zs.length = ys.length) : ∀ i : Nat, i < k → SameF (madeAt os ws i) (atF zs (i : Int)) := by
  intro i hi
  have h3 := SameF.at h1 l1 (i := i) (by rw [madeL_length]; exact hi)
  rw [madeL_at hi] at h3
  exact h3.trans (SameF.at h2 l2 (by rw [l1, madeL_length]; exact hi))
/-- One call's answer is changed: what lies there. -/
def TurnD (w : World) (os : List OpM) (ws : List Int) (k j g : Nat) (A4 : Option Addr) (wc : World) : Prop := ∃ ys : List Full, ys.length = k ∧ (∀ i : Nat, i < k → i ≠ j → SameF (madeAt os ws i) (atF ys (i : Int))) ∧ SameF (turned (madeAt os ws j)) (atF ys (j : Int)) ∧ SeenC wc (some ⟨g, 0, none⟩) ys ∧ Small ys ∧ Sees wc A4 ((upTo k).map i64v) ∧ Below w.heap.size w wc
theorem turn_done {w W : World} {os : List OpM} {ws : List Int} {k gr f g c3 c4 j : Nat} {l : List (List UInt8)} {A4 : Option Addr} {T : Nat → Prop} {ys : List Full} {y : Full} (h : MadeI w (madeL os ws k) gr f l (some ⟨g, 0, none⟩) c3 A4 c4 T ys W) (h2 : OrdI w k A4 c4 T W) (hs : Small ys) (hj : j < k) (hy : ys[j]? = some y) (i : Nat) (hi : i < 12) (v : Value)
    (he : (turned y).1.cells.toList = y.1.cells.toList.set i v) : TurnD w os ws k j g A4 (W.setCell ⟨g, j * 12 + i, none⟩ v) := by
  have hl : ys.length = k := by rw [h.len, madeL_length]
  have hd : (turned y).1.dv = y.1.dv ∧ (turned y).1.rv = y.1.rv := by
    unfold turned
    split
    · exact ⟨rfl, rfl⟩
    · exact ⟨rfl, rfl⟩
  have h9 := h.turn (j := j) (i := i) (y' := turned y) (v := v) (by omega) hi (fun z hz => by
    rw [hy] at hz
    cases hz
    exact ⟨he, hd.1, hd.2, (turned_tell y).2⟩)
  obtain ⟨cur, hcur⟩ := h9.2
  have hat : ∀ i : Nat, i < k → SameF (madeAt os ws i) (atF ys (i : Int)) := fun i hi => by
    have h8 := SameF.at h.same h.len (i := i) (by rw [madeL_length]; exact hi)
    rwa [madeL_at hi] at h8
  refine ⟨ys.set j (turned y), by rw [List.length_set, hl], fun a ha hne => ?_, ?_, h9.1.seen, ?_, (sees_own' (h2.set hcur ⟨g, j * 12 + i, none⟩ v rfl).row).2.2.2, h9.1.bel⟩
  · have e : atF (ys.set j (turned y)) (a : Int) = atF ys (a : Int) := by
      unfold atF
      rw [Int.toNat_natCast, List.getD_eq_getElem?_getD, List.getD_eq_getElem?_getD, List.getElem?_set, if_neg (by omega)]
    rw [e]
    exact hat a ha
  · have e : atF (ys.set j (turned y)) (j : Int) = turned y := by
      unfold atF
      rw [Int.toNat_natCast, List.getD_eq_getElem?_getD, List.getElem?_set, if_pos rfl, if_pos (by omega)]
      rfl
    have e2 : atF ys (j : Int) = y := by
      unfold atF
      rw [Int.toNat_natCast, List.getD_eq_getElem?_getD, hy]
      rfl
    rw [e]
    have h8 := hat j hj
    rw [e2] at h8
    exact same_turned h8
  · intro x hx
    rcases List.mem_or_eq_of_mem_set hx with h8 | rfl
    · exact hs x h8
    · rw [(turned_tell y).2]
      exact hs y (List.mem_of_getElem? hy)
theorem madeL_succ (os : List OpM) (ws : List Int) (k : Nat) : madeL os ws (k + 1) = madeL os ws k ++ [madeAt os ws k] := by
  simp [madeL, List.range_succ]
theorem made_more {w W W' : World} {os : List OpM} {ws : List Int} {k gr f c3 c4 c6 : Nat} {l : List (List UInt8)} {A3 A4 A6 : Option Addr} {T : Nat → Prop} {ys : List Full} {y : Full}
    (h : MadeI w (madeL os ws k) gr f l A3 c3 A4 c4 T ys W) (hx : SameF (madeAt os ws k) y) (hy : RSee w T y W)
    (ho : W'.ownsRow w.heap.size TC 12 (.slice A6 (k + 1) c6) (k + 1) (((ys.map fun y => y.1.cells.toList).flatten) ++ y.1.cells.toList)) (hg : W.grownBy W' (Value.slice A3 k c3).ownBlock)
    (hat : (Value.slice A6 (k + 1) c6).ownBlock = (Value.slice A3 k c3).ownBlock ∨ (Value.slice A6 (k + 1) c6).ownBlock = some W.heap.size) : MadeI w (madeL os ws (k + 1)) gr f l A6 c6 A4 c4 T (ys ++ [y]) W' := by
  rw [madeL_succ]
  have e := madeL_length os ws k
  refine h.more hx hy ?_ ?_ ?_
  · rw [e]; exact ho
  · rw [e]; exact hg
  · rw [e]; exact hat
set_option maxRecDepth 16384 in
set_option maxHeartbeats 16000000 in
theorem made_any (A O : Option Addr) (os : List OpM) (ws : List Int) (kk : Int) (n c m oc : Nat) (w : World) (hO : SeenM w A os) (hn : os.length = n) (hl : n * 48 ≤ 140737488351232) (hW : Sees w O (ws.map i64v)) (hm : ws.length = m) (hm2 : m * 8 ≤ 140737488351232) (hws : ∀ i ∈ ws, IntOk i) (hk : IntOk kk) :
    Calls Try.prog 6 #[.slice A n c, .slice O m oc, .int .i64 kk] w (RetBool w true) := by
  have HO := Lib.hid hO
  have HN := Lib.hid hn
  have HWS := Lib.hid hW
  have HM := Lib.hid hm
  have HOKS := Lib.hid hws
  have HKK := Lib.hid hk
  have HBYT : Hid (∀ j, (os.getD j (0, 0, 0, [])).2.2.2.length ≤ 140737488351232) := Lib.hid (by
    intro j
    rcases Nat.lt_or_ge j os.length with h | h
    · obtain ⟨ad, A1, c1, ho⟩ := hO.at h
      rw [List.getD_eq_getElem?_getD, List.getElem?_eq_getElem h]
      exact ho.bl
    · rw [List.getD_eq_getElem?_getD, List.getElem?_eq_none h]
      exact Nat.zero_le _)
  have HNEW := Lib.hid (made_new w os ws)
  clear hO hn hW hm hws hk
  go_enter Try.func6, Try.ntmps6
  go_wp2_with fail
  obtain ⟨gr, hgr⟩ : ∃ gr, w.heap.size = gr := ⟨_, rfl⟩
  have HGR := Lib.hid hgr
  rw [hgr] at HNEW
  try rw [hgr]
  have REL0 : Hid (∃ (k : Nat) (A3 : Option Addr) (c3 : Nat) (A4 : Option Addr) (c4 : Nat) (T : Nat → Prop) (ys : List Full), Value.slice none 0 0 = .slice A3 k c3 ∧ Value.slice none 0 0 = .slice A4 k c4 ∧ Value.int .i64 0 = .int .i64 (k : Int) ∧ k ≤ n ∧ k ≤ 60 ∧ MadeI w (madeL os ws k) gr (opM os k).1 (opM os k).2 A3 c3 A4 c4 T ys (w.alloc (.cells #[.int .i64 0, .slice none 0 0] TM)) ∧ OrdI w k A4 c4 T (w.alloc (.cells #[.int .i64 0, .slice none 0 0] TM))) :=
    Lib.hid ⟨0, none, 0, none, 0, _, [], rfl, rfl, rfl, Nat.zero_le _, by omega, HNEW.out.1, HNEW.out.2⟩
  clear hgr HNEW
  go_loopw [8, 9, 10] (fun s8 s9 s10 wr => ∃ (k : Nat) (A3 : Option Addr) (c3 : Nat) (A4 : Option Addr) (c4 : Nat) (T : Nat → Prop) (ys : List Full), s8 = .slice A3 k c3 ∧ s9 = .slice A4 k c4 ∧ s10 = .int .i64 (k : Int) ∧ k ≤ n ∧ k ≤ 60 ∧ MadeI w (madeL os ws k) gr (opM os k).1 (opM os k).2 A3 c3 A4 c4 T ys wr ∧ OrdI w k A4 c4 T wr) (fun _ _ s10 _ => 60 - (intOf s10).toNat)
  case atStart => exact REL0.out
  case round =>
    obtain ⟨k, A3, c3, A4, c4, T, ys, rfl, rfl, rfl, hkn, hk60, hmi, hoi⟩ := hrel
    have HMI := Lib.hid hmi
    have HOI := Lib.hid hoi
    clear REL0 hoi
    by_cases hlt : k < n ∧ k < 60
    · obtain ⟨hk1, hk2⟩ := hlt
      have hki : (k : Int) < (n : Int) := by omega
      have hki2 : (k : Int) < 60 := by omega
      obtain ⟨ad, A1, c1, hop⟩ := HO.out.at (k := k) (by rw [HN.out]; exact hk1)
      have hop' := hop.later hmi.bel
      obtain ⟨o, ho⟩ : ∃ o, os[k]'(by rw [HN.out]; exact hk1) = o := ⟨_, rfl⟩
      have hog : os.getD k (0, 0, 0, []) = o := by
        rw [List.getD_eq_getElem?_getD, List.getElem?_eq_getElem (by rw [HN.out]; exact hk1)]
        exact ho
      rw [ho] at hop hop'
      obtain rfl := hop.adr
      have q0 := hop'.e0
      have q1 := hop'.e1
      have q2 := hop'.e2
      have q3 := hop'.e3
      have hbs0 := hop.bs
      have hbc := hop'.bc
      have hbl := hop'.bl
      have HOG := Lib.hid hog
      obtain ⟨kd, fr, mo, bs⟩ := o
      simp only at q0 q1 q2 q3 hbc hbl hbs0
      obtain ⟨q, hq⟩ : ∃ q, bs.length = q := ⟨_, rfl⟩
      rw [hq] at q3 hbc hbl
      obtain ⟨bx, hbx⟩ : ∃ bx, wr.heap.size = bx := ⟨_, rfl⟩
      obtain ⟨W, hW⟩ : ∃ W, wr.alloc (.cells #[.int .i64 kd, .int .i64 fr, .int .i64 mo, .slice A1 q c1] 32) = W := ⟨_, rfl⟩
      have hbW : Below wr.heap.size wr W := by rw [← hW]; exact (Below.refl _ _).alloc (Nat.le_refl _) _
      have xo : W.heap[bx]? = some (.cells #[.int .i64 kd, .int .i64 fr, .int .i64 mo, .slice A1 q c1] 32 (0, 0)) := by rw [← hW, ← hbx]; exact heap_alloc_new _ _
      have hzW : W.heap.size = bx + 1 := by rw [← hW, ← hbx]; simp
      have HX := Lib.hid xo
      have HZ := Lib.hid hzW
      have HS0 := Lib.hid hbs0
      have HQ := Lib.hid hq
      have HW := Lib.hid hW
      have HBX := Lib.hid hbx
      have HMW := Lib.hid (hmi.below hbW)
      have HTX : Hid (¬ T bx) := Lib.hid (fun h => by have := (hmi.low bx h).2; omega)
      have HOW := Lib.hid (HOI.out.below hbW)
      obtain ⟨i0, i1, i2, i3⟩ := cells4 xo
      clear hop hop' ho hog hbs0 hq hW hbW hbx xo hzW hmi HMI HOI
      go_upto_region 8 with (fail)
      rw [HW.out, HBX.out]
      clear HW q0 q1 q2 q3
      have hwi := wide_in ws k
      obtain ⟨wv, hwv⟩ : ∃ wv, wideW ws k = wv := ⟨_, rfl⟩
      rw [hwv] at hwi
      have HWV := Lib.hid hwv
      clear hwv
      go_upto_if 37 with (fail)
      go_cut [12] from 37 to 44 (fun s12 wc => s12 = .int .i64 wv ∧ W = wc)
      case first =>
        by_cases hkm : k < m
        · have hkmi : (k : Int) < (m : Int) := by omega
          obtain ⟨v, hv⟩ : ∃ v, ws.getD k 0 = v := ⟨_, rfl⟩
          obtain ⟨ado, eo, hco⟩ := (HWS.out.below (HMW.out.bel)) k (.int .i64 v) (by
            rw [List.getElem?_map, List.getElem?_eq_getElem (by rw [HM.out]; exact hkm), ← getD_of (by rw [HM.out]; exact hkm), hv]
            rfl)
          subst eo
          have HV := Lib.hid hv
          clear hv
          have h1 := Int.tmod_lt_of_pos v (show (0 : Int) < 9 by decide)
          have h2 : -9 < v.tmod 9 := Int.lt_tmod_of_pos v (show (0 : Int) < 9 by decide)
          have e1 : IntKind.i64.wrap (v.tmod 9 + 9) = v.tmod 9 + 9 := IntWalk.i64_in _ (by omega)
          go_wp2_with fail
          go_meet
          case rel =>
            refine ⟨?_, rfl⟩
            rw [← HWV.out]
            unfold wideW
            rw [if_pos (by rw [HM.out]; exact hkm), HV.out, Int.tmod_eq_emod_of_nonneg (show 0 ≤ v.tmod 9 + 9 by omega)]
        · have hkmi : ¬ (k : Int) < (m : Int) := by omega
          go_wp2_with fail
          go_meet
          case rel =>
            refine ⟨?_, rfl⟩
            rw [← HWV.out]
            unfold wideW
            rw [if_neg (by rw [HM.out]; exact hkm)]
      case rest =>
        obtain ⟨rfl, rfl⟩ := hcut
        have e1 : IntKind.i64.wrap (10 * (k : Int)) = 10 * (k : Int) := IntWalk.i64_in _ (by omega)
        have e2 : IntKind.i64.wrap (wv * 7) = wv * 7 := IntWalk.i64_in _ (by omega)
        have e3 : IntKind.i64.wrap (10 * (k : Int) - wv * 7) = 10 * (k : Int) - wv * 7 := IntWalk.i64_in _ (by omega)
        have e4 : IntKind.i64.wrap (10 * (k : Int) + 1) = 10 * (k : Int) + 1 := IntWalk.i64_in _ (by omega)
        have e5 : IntKind.i64.wrap (10 * (k : Int) + 1 + wv * 7) = 10 * (k : Int) + 1 + wv * 7 := IntWalk.i64_in _ (by omega)
        obtain ⟨bg, hbg⟩ : ∃ bg, (if wv * 7 < 10 * (k : Int) then 10 * (k : Int) - wv * 7 else 0) = bg := ⟨_, rfl⟩
        have hbg2 : max 0 (10 * (k : Int) - wv * 7) = bg := by
          rw [← hbg]
          split <;> omega
        obtain ⟨fi, hfi⟩ : ∃ fi, 10 * (k : Int) + 1 + wv * 7 = fi := ⟨_, rfl⟩
        obtain ⟨cb, hcb⟩ : ∃ cb, W.heap.size = cb := ⟨_, rfl⟩
        obtain ⟨W2, hW2⟩ : ∃ W2, W.alloc (.cells #[.int .i64 (k : Int), .int .i64 bg, .int .i64 fi, .int .i64 1, .int .i64 0, .bool true, .int .i64 0, .int .i64 0, .int .i64 0, .int .i64 0, .slice A1 q c1, .slice none 0 0] TC) = W2 := ⟨_, rfl⟩
        have hb2 : Below W.heap.size W W2 := by rw [← hW2]; exact (Below.refl _ _).alloc (Nat.le_refl _) _
        have hx2 : BoxC W2 cb ⟨k, bg, fi, 1, 0, true, 0, 0, 0, 0, .slice A1 q c1, .slice none 0 0⟩ := by rw [← hW2, ← hcb]; exact heap_alloc_new _ _
        have HMB := Lib.hid (HMW.out.below hb2)
        have HOB := Lib.hid (HOW.out.below hb2)
        have hTc : ¬ T cb := fun h => by have := (HMW.out.low cb h).2; omega
        have h3c : ∀ b, (Value.slice A3 (madeL os ws k).length c3).ownBlock = some b → b ≠ cb := fun b hb e => by have := (own_block_ge HMW.out.row b hb).2; omega
        have hwc : w.heap.size ≤ cb := by have := HMW.out.bel.size; omega
        have HXO : Hid (∀ W', Outside (fun b => T b ∨ b = cb) W2 W' → W'.cell? ⟨bx, 0, none⟩ = some (.int .i64 kd) ∧ W'.cell? ⟨bx, 1, none⟩ = some (.int .i64 fr) ∧ W'.cell? ⟨bx, 2, none⟩ = some (.int .i64 mo) ∧ W'.cell? ⟨bx, 3, none⟩ = some (.slice A1 q c1)) := Lib.hid (fun W' ho => by
          have h9 := block_below HX.out hb2
          refine cells4 ((ho.block bx (Array.getElem?_eq_some_iff.1 h9).1 ?_).trans h9)
          rintro (h8 | h8)
          · exact HTX.out h8
          · have := HZ.out
            omega)
        have HX2 := Lib.hid hx2
        have HB2 := Lib.hid hb2
        have HT := Lib.hid hTc
        have H3 := Lib.hid h3c
        have HW2 := Lib.hid hW2
        have HCB := Lib.hid hcb
        have HBG := Lib.hid hbg2
        have HFI := Lib.hid hfi
        have hxo2 := HXO.out W2 (Outside.refl _ _)
        have o0 := hxo2.1
        clear hTc h3c hb2 hx2 hW2 hxo2 hbg2
        go_upto_region 12 with (fail)
        try rw [hbg]
        try rw [hfi]
        try rw [HW2.out]
        try rw [hcb]
        clear hbg hfi hcb e1 e2 e3 e4 e5
        go_upto_block 2 with (fail)
        go_cut [] from 63 to 110 (fun wc => ∃ (T' : Nat → Prop) (y : Full), BoxC wc cb y.1 ∧ SameF (madeAt os ws k) y ∧ RSee w T' y wc ∧ MadeI w (madeL os ws k) gr (opM os (k + 1)).1 (opM os (k + 1)).2 A3 c3 A4 c4 T' ys wc ∧ OrdI w k A4 c4 T' wc)
        case first =>
          obtain ⟨f, hf⟩ : ∃ f, (opM os k).1 = f := ⟨_, rfl⟩
          obtain ⟨l, hl2⟩ : ∃ l, (opM os k).2 = l := ⟨_, rfl⟩
          have hbd := opM_bound os k
          have hst : opM os (k + 1) = opF (kd, fr, mo, bs) (f, l) := by
            rw [← hf, ← hl2, ← HOG.out]
            rfl
          have hmd : madeAt os ws k = made1 (kd, fr, mo, bs) (f, l) k wv := by
            unfold madeAt
            rw [HOG.out, HWV.out, ← hf, ← hl2]
          rw [hf, hl2] at HMB hbd
          have HST := Lib.hid hst
          have HMD := Lib.hid hmd
          obtain ⟨N, hNl⟩ : ∃ N, l.length = N := ⟨_, rfl⟩
          rw [hNl] at hbd
          have HNL := Lib.hid hNl
          have hf47 : f ≤ 140737488355328 := by omega
          have hN42 : N ≤ 4398046511104 := by omega
          have HBXT : Hid (∀ w3, Outside (fun b => T b ∧ ¬ IsU8 W2 b) W2 w3 → BoxC w3 cb ⟨k, bg, fi, 1, 0, true, 0, 0, 0, 0, .slice A1 q c1, .slice none 0 0⟩ ∧ ¬ Cut (Plus T W2) w3 cb) := Lib.hid (fun w3 ho => ⟨(ho.block cb HX2.out.lt (fun h => HT.out h.1)).trans HX2.out, fun h => by
            rcases h.1 with h8 | h8
            · exact HT.out h8
            · have := HX2.out.lt
              omega⟩)
          have HSB : Hid (∀ W', Below w.heap.size w W' → Sees W' A1 (u8s bs)) := Lib.hid (fun W' hb => HS0.out.below hb)
          have HRS : Hid (∀ (T' : Nat → Prop) (W' : World) (cv : CV), RSee w T' ({ cv with dv := .slice A1 q c1, rv := .slice none 0 0 }, bs, []) W') := Lib.hid (fun T' W' cv => ⟨⟨A1, c1, by dsimp only; rw [HQ.out], by dsimp only; rw [HQ.out]; exact hbc, HS0.out⟩, none, 0, [], rfl, ⟨rfl, .inl ⟨rfl, rfl⟩⟩, (fun b hb => by simp [Value.ownBlock] at hb), Recs.nil⟩)
          clear hf hl2 hst hmd hNl
          by_cases h0 : kd = 0
          · subst h0
            obtain ⟨z, hz⟩ : ∃ z, ((f + N : Nat) : Int) = z := ⟨_, rfl⟩
            have HZZ := Lib.hid hz
            clear hz
            have hput := refput2_any A1 bs c1 W2 HMB.out.mdl hf47 (by rw [HNL.out]; exact hN42) (by rw [HQ.out]; exact hbc) (by rw [HQ.out]; omega) (HSB.out _ HMB.out.bel)
            rw [HQ.out, HNL.out, HZZ.out] at hput
            have HPUT := Lib.hid hput
            clear hput
            have o3 := (HXO.out W2 (Outside.refl _ _)).2.2.2
            go_wp2_with (first
              | (go_at_call 12; refine HPUT.out.mono ?_; rintro e w3 ⟨rfl, hm3, ho3⟩; obtain ⟨hb3, ht3⟩ := HBXT.out w3 ho3; have j8 := hb3.cell 8 _ rfl; have f8 := hb3.frozen 8; have HM3 := Lib.hid hm3; have HO3 := Lib.hid ho3; have HB3 := Lib.hid hb3; have HT3 := Lib.hid ht3; clear hm3 ho3 hb3 ht3)
              | fail)
            go_meet
            case rel =>
              refine ⟨_, (⟨k, bg, fi, 1, 0, true, 0, 0, z, 0, .slice A1 q c1, .slice none 0 0⟩, bs, []), HB3.out.set8 z, ?_, (HRS.out (Cut (Plus T W2) w3) _ ⟨k, bg, fi, 1, 0, true, 0, 0, z, 0, .slice A1 q c1, .slice none 0 0⟩), ?_, ?_⟩
              · rw [HMD.out]
                unfold made1
                rw [if_pos rfl]
                refine ⟨rfl, ?_⟩
                dsimp only
                rw [HBG.out, HFI.out, HNL.out, HZZ.out]
              · rw [HST.out]
                unfold opF
                rw [if_pos rfl]
                exact (HMB.out.step HM3.out HO3.out).set HB3.out H3.out HT3.out hwc _ _ rfl
              · exact (HOB.out.step HO3.out).set HB3.out _ _ rfl
          · by_cases h1 : kd = 1
            · subst h1
              obtain ⟨z, hz⟩ : ∃ z, ((clampN fr f N : Nat) : Int) = z := ⟨_, rfl⟩
              have HZZ := Lib.hid hz
              clear hz
              have j3 := HX2.out.cell 3 _ rfl
              have f3 := HX2.out.frozen 3
              go_upto_region 23 with (fail)
              obtain ⟨Wa, hWa⟩ : ∃ Wa, W2.setCell ⟨cb, 3, none⟩ (.int .i64 3) = Wa := ⟨_, rfl⟩
              have hxa := HX2.out.set3 3
              have hma := HMB.out.set HX2.out H3.out HT.out hwc ⟨cb, 3, none⟩ (.int .i64 3) rfl
              have hoa := HOB.out.set HX2.out ⟨cb, 3, none⟩ (.int .i64 3) rfl
              have hua : Outside (fun b => T b ∨ b = cb) W2 (W2.setCell ⟨cb, 3, none⟩ (.int .i64 3)) := (Outside.refl _ _).set _ _ (.inr (.inr rfl))
              rw [hWa] at hxa hma hoa hua ⊢
              clear hWa j3 f3
              have a1 := (HXO.out Wa hua).2.1
              have j6 := hxa.cell 6 _ rfl
              have f6 := hxa.frozen 6
              have HXA := Lib.hid hxa
              have HMA := Lib.hid hma
              have HOA := Lib.hid hoa
              have HUA := Lib.hid hua
              clear hxa hma hoa hua
              go_upto_region 24 with (fail)
              obtain ⟨Wb, hWb⟩ : ∃ Wb, Wa.setCell ⟨cb, 6, none⟩ (.int .i64 fr) = Wb := ⟨_, rfl⟩
              have hxb := HXA.out.set6 fr
              have hmb := HMA.out.set HXA.out H3.out HT.out hwc ⟨cb, 6, none⟩ (.int .i64 fr) rfl
              have hob := HOA.out.set HXA.out ⟨cb, 6, none⟩ (.int .i64 fr) rfl
              have hub : Outside (fun b => T b ∨ b = cb) W2 (Wa.setCell ⟨cb, 6, none⟩ (.int .i64 fr)) := HUA.out.set _ _ (.inr (.inr rfl))
              rw [hWb] at hxb hmb hob hub ⊢
              clear hWb j6 f6 a1
              have a1 := (HXO.out Wb hub).2.1
              have HXB := Lib.hid hxb
              have HMBB := Lib.hid hmb
              have HOBB := Lib.hid hob
              have hbt : ∀ w3, Outside (fun b => T b ∧ ¬ IsU8 Wb b) Wb w3 → BoxC w3 cb ⟨k, bg, fi, 3, 0, true, fr, 0, 0, 0, .slice A1 q c1, .slice none 0 0⟩ ∧ ¬ Cut (Plus T Wb) w3 cb := fun w3 ho => ⟨(ho.block cb HXB.out.lt (fun h => HT.out h.1)).trans HXB.out, fun h => by
                rcases h.1 with h8 | h8
                · exact HT.out h8
                · have := HXB.out.lt
                  omega⟩
              have HBT := Lib.hid hbt
              clear hxb hmb hob hub hbt
              have htr := reftrim2_any fr Wb HMBB.out.mdl hf47 (by rw [HNL.out]; exact hN42)
              rw [HNL.out, HZZ.out] at htr
              have HTR := Lib.hid htr
              clear htr
              go_wp2_with (first
                | (go_at_call 14; refine HTR.out.mono ?_; rintro e w3 ⟨rfl, hm3, ho3⟩; obtain ⟨hb3, ht3⟩ := HBT.out w3 ho3; have j9 := hb3.cell 9 _ rfl; have f9 := hb3.frozen 9; have HM3 := Lib.hid hm3; have HO3 := Lib.hid ho3; have HB3 := Lib.hid hb3; have HT3 := Lib.hid ht3; clear hm3 ho3 hb3 ht3)
                | fail)
              go_meet
              case rel =>
                refine ⟨_, (⟨k, bg, fi, 3, 0, true, fr, 0, 0, z, .slice A1 q c1, .slice none 0 0⟩, bs, []), HB3.out.set9 z, ?_, (HRS.out (Cut (Plus T Wb) w3) _ ⟨k, bg, fi, 3, 0, true, fr, 0, 0, z, .slice A1 q c1, .slice none 0 0⟩), ?_, ?_⟩
                · rw [HMD.out]
                  unfold made1
                  rw [if_neg (show ¬ (1 : Int) = 0 by decide), if_pos rfl]
                  refine ⟨rfl, ?_⟩
                  dsimp only
                  rw [HBG.out, HFI.out, HNL.out, HZZ.out]
                · rw [HST.out]
                  unfold opF
                  rw [if_neg (show ¬ (1 : Int) = 0 by decide), if_pos rfl]
                  dsimp only
                  rw [HNL.out]
                  exact (HMBB.out.step HM3.out HO3.out).set HB3.out H3.out HT3.out hwc _ _ rfl
                · exact (HOBB.out.step HO3.out).set HB3.out _ _ rfl
            · have d0 : (kd == 0) = false := by simpa using h0
              have d1 : (kd == 1) = false := by simpa using h1
              have hgr : ∀ {W' : World} {xs' : List Full} {T' : Nat → Prop} {ys' : List Full}, MadeI w xs' gr f l A3 c3 A4 c4 T' ys' W' → W'.cell? ⟨gr, 0, none⟩ = some (.int .i64 (f : Int)) := fun h => by
                obtain ⟨R9, c9, cells9, h9, _⟩ := h.mdl
                exact (mod_cells h9).1
              have j3 := HX2.out.cell 3 _ rfl
              have f3 := HX2.out.frozen 3
              go_upto_region 14 with (fail)
              obtain ⟨Wa, hWa⟩ : ∃ Wa, W2.setCell ⟨cb, 3, none⟩ (.int .i64 2) = Wa := ⟨_, rfl⟩
              have hxa := HX2.out.set3 2
              have hma := HMB.out.set HX2.out H3.out HT.out hwc ⟨cb, 3, none⟩ (.int .i64 2) rfl
              have hoa := HOB.out.set HX2.out ⟨cb, 3, none⟩ (.int .i64 2) rfl
              have hua : Outside (fun b => T b ∨ b = cb) W2 (W2.setCell ⟨cb, 3, none⟩ (.int .i64 2)) := (Outside.refl _ _).set _ _ (.inr (.inr rfl))
              rw [hWa] at hxa hma hoa hua ⊢
              clear hWa j3 f3
              have g0 := hgr hma
              have j6 := hxa.cell 6 _ rfl
              have f6 := hxa.frozen 6
              have HXA := Lib.hid hxa
              have HMA := Lib.hid hma
              have HOA := Lib.hid hoa
              have HUA := Lib.hid hua
              clear hxa hma hoa hua
              go_upto_region 15 with (fail)
              obtain ⟨Wb, hWb⟩ : ∃ Wb, Wa.setCell ⟨cb, 6, none⟩ (.int .i64 (f : Int)) = Wb := ⟨_, rfl⟩
              have hxb := HXA.out.set6 (f : Int)
              have hmb := HMA.out.set HXA.out H3.out HT.out hwc ⟨cb, 6, none⟩ (.int .i64 (f : Int)) rfl
              have hob := HOA.out.set HXA.out ⟨cb, 6, none⟩ (.int .i64 (f : Int)) rfl
              have hub : Outside (fun b => T b ∨ b = cb) W2 (Wa.setCell ⟨cb, 6, none⟩ (.int .i64 (f : Int))) := HUA.out.set _ _ (.inr (.inr rfl))
              rw [hWb] at hxb hmb hob hub ⊢
              clear hWb j6 f6 g0
              have a2 := (HXO.out Wb hub).2.2.1
              have j7 := hxb.cell 7 _ rfl
              have f7 := hxb.frozen 7
              have HXB := Lib.hid hxb
              have HMBB := Lib.hid hmb
              have HOBB := Lib.hid hob
              have HUB := Lib.hid hub
              clear hxb hmb hob hub
              go_upto_region 16 with (fail)
              obtain ⟨mv, hmv⟩ : ∃ mv, (if mo < 0 then 0 else mo) = mv := ⟨_, rfl⟩
              have hmx : max mo 0 = mv := by
                rw [← hmv]
                split <;> omega
              try rw [hmv]
              clear hmv
              obtain ⟨Wc, hWc⟩ : ∃ Wc, Wb.setCell ⟨cb, 7, none⟩ (.int .i64 mv) = Wc := ⟨_, rfl⟩
              have hxc := HXB.out.set7 mv
              have hmc := HMBB.out.set HXB.out H3.out HT.out hwc ⟨cb, 7, none⟩ (.int .i64 mv) rfl
              have hoc' := HOBB.out.set HXB.out ⟨cb, 7, none⟩ (.int .i64 mv) rfl
              have huc : Outside (fun b => T b ∨ b = cb) W2 (Wb.setCell ⟨cb, 7, none⟩ (.int .i64 mv)) := HUB.out.set _ _ (.inr (.inr rfl))
              rw [hWc] at hxc hmc hoc' huc ⊢
              clear hWc j7 f7 a2
              obtain ⟨xs5, hxs5⟩ : ∃ xs5, getL (f : Int) mv f l = xs5 := ⟨_, rfl⟩
              obtain ⟨ok5, hok5⟩ : ∃ ok5, getOK (f : Int) f N = ok5 := ⟨_, rfl⟩
              have g0 := hgr hmc
              have g0d : Wc.drew.cell? ⟨gr, 0, none⟩ = some (.int .i64 (f : Int)) := g0
              have c7d : Wc.drew.cell? ⟨cb, 7, none⟩ = some (.int .i64 mv) := hxc.cell 7 _ rfl
              have hget := refget_any (f : Int) mv Wc.drew (hmc.below (Below.refl _ _).drew).mdl hf47 (by rw [HNL.out]; exact hN42)
              rw [HNL.out, hxs5, hok5] at hget
              have HGET := Lib.hid hget
              have HXC := Lib.hid hxc
              have HMC := Lib.hid hmc
              have HOC := Lib.hid hoc'
              have HXS5 := Lib.hid hxs5
              have HMX := Lib.hid hmx
              clear hget hxc hmc hoc' huc hxs5 hok5 hmx g0
              go_region_held3 (fun W' => W'.cell? ⟨gr, 0, none⟩ = some (.int .i64 (f : Int)) ∧ W'.cell? ⟨cb, 7, none⟩ = some (.int .i64 mv))
                (first
                  | exact ⟨g0d, c7d⟩
                  | exact ⟨g5, c75⟩
                  | exact ⟨g6, c76⟩
                  | fail)
                (first
                  | (go_simp; go_at_call 16; refine HGET.out.mono ?_; rintro e w5 ⟨A5, m5, c5, cells5, rfl, hm5, ho5, hr5, hb5⟩; have hx5 := (HXC.out.below (Below.refl _ _).drew).below hb5; have hm5' := (HMC.out.below (Below.refl _ _).drew).below hb5; have hx6 := hx5.set11 (.slice A5 m5 c5); have hmm6 := hm5'.set hx5 H3.out HT.out hwc ⟨cb, 11, none⟩ (.slice A5 m5 c5) rfl; have g5 := hgr hm5'; have c75 := hx5.cell 7 _ rfl; have k11 := hx5.cell 11 _ rfl; have f11 := hx5.frozen 11; have g6 := hgr hmm6; have c76 := hx6.cell 7 _ rfl; have HR5 := Lib.hid hr5; have HO5 := Lib.hid ho5; have HM5 := Lib.hid hm5; have HB5 := Lib.hid hb5; have HX5 := Lib.hid hx5; have HX6 := Lib.hid hx6; have HMM5 := Lib.hid hm5'; have HMM6 := Lib.hid hmm6; clear hr5 ho5 hm5 hb5 hx5 hx6 hm5' hmm6)
                  | fail)
              have hm55 := HM5.out
              have hrv : ∀ cv : CV, RSee w T ({ cv with dv := .slice A1 q c1, rv := .slice A5 m5 c5 }, bs, xs5) w5 := by
                intro cv
                refine ⟨⟨A1, c1, by dsimp only; rw [HQ.out], by dsimp only; rw [HQ.out]; exact hbc, HS0.out⟩, A5, c5, cells5, by dsimp only; rw [hm55], ?_, ?_, ?_⟩
                · dsimp only
                  rw [← hm55]
                  exact own_lower HO5.out HMC.out.bel.size
                · intro b hb h9
                  dsimp only at hb
                  rw [← hm55] at hb
                  have := (own_block_ge HO5.out b hb).1
                  have h8 := (HMC.out.low b h9).2
                  have h7 : Wc.drew.heap.size = Wc.heap.size := rfl
                  omega
                · exact HR5.out.imp fun j x cs _ hl => by
                    obtain ⟨A9, c9, e9, ho9, hs9⟩ := hl
                    exact ⟨A9, c9, e9, ho9, fun b hb => (HMC.out.low b (hs9 b hb)).1⟩
              have HRV := Lib.hid hrv
              clear hrv hm55
              obtain ⟨We, hWe⟩ : ∃ We, w5.setCell ⟨cb, 11, none⟩ (.slice A5 m5 c5) = We := ⟨_, rfl⟩
              have hxe := HX6.out
              have hme := HMM6.out
              have hoe := ((HOC.out.below (Below.refl _ _).drew).below HB5.out).set HX5.out ⟨cb, 11, none⟩ (.slice A5 m5 c5) rfl
              have hre := fun cv => (HRV.out cv).set HX5.out ⟨cb, 11, none⟩ (.slice A5 m5 c5) rfl
              rw [hWe] at hxe hme hoe hre ⊢
              clear hWe g5 c75 k11 f11 g6 c76 HX5 HX6 HMM5 HMM6
              obtain ⟨z, hz⟩ : ∃ z, ((f + N : Nat) : Int) = z := ⟨_, rfl⟩
              have hnx := refnext_any We hme.mdl hf47 (by rw [HNL.out]; omega)
              rw [HNL.out, hz] at hnx
              have HNX := Lib.hid hnx
              have HXE := Lib.hid hxe
              have HME := Lib.hid hme
              have HOE := Lib.hid hoe
              have HRE := Lib.hid hre
              have HZZ := Lib.hid hz
              clear hnx hxe hme hoe hre hz
              go_upto_region 18 with (first
                | (go_at_call 20; refine HNX.out.mono ?_; rintro e w6 ⟨rfl, hb6⟩; have hx6 := HXE.out.below hb6; have j8 := hx6.cell 8 _ rfl; have f8 := hx6.frozen 8; have HX6 := Lib.hid hx6; have HB6 := Lib.hid hb6; clear hx6 hb6)
                | fail)
              obtain ⟨Wg, hWg⟩ : ∃ Wg, w6.setCell ⟨cb, 8, none⟩ (.int .i64 z) = Wg := ⟨_, rfl⟩
              have hxg := HX6.out.set8 z
              have hmg := (HME.out.below HB6.out).set HX6.out H3.out HT.out hwc ⟨cb, 8, none⟩ (.int .i64 z) rfl
              have hog := (HOE.out.below HB6.out).set HX6.out ⟨cb, 8, none⟩ (.int .i64 z) rfl
              have hrg := fun cv => ((HRE.out cv).below HB6.out).set HX6.out ⟨cb, 8, none⟩ (.int .i64 z) rfl
              rw [hWg] at hxg hmg hog hrg ⊢
              clear hWg j8 f8
              have g8 := hgr hmg
              have j9 := hxg.cell 9 _ rfl
              have f9 := hxg.frozen 9
              have HXG := Lib.hid hxg
              have HMG := Lib.hid hmg
              have HOGG := Lib.hid hog
              have HRG := Lib.hid hrg
              clear hxg hmg hog hrg
              go_wp2_with fail
              go_meet
              case rel =>
                refine ⟨T, (⟨k, bg, fi, 2, 0, true, f, mv, z, f, .slice A1 q c1, .slice A5 m5 c5⟩, bs, xs5), HXG.out.set9 (f : Int), ?_, (HRG.out ⟨k, bg, fi, 2, 0, true, f, mv, z, f, .slice A1 q c1, .slice A5 m5 c5⟩).set HXG.out _ _ rfl, ?_, HOGG.out.set HXG.out _ _ rfl⟩
                · rw [HMD.out]
                  unfold made1
                  rw [if_neg h0, if_neg h1]
                  dsimp only
                  rw [HMX.out, HXS5.out]
                  refine ⟨rfl, ?_⟩
                  dsimp only
                  rw [HBG.out, HFI.out, HNL.out, HZZ.out]
                · rw [HST.out]
                  unfold opF
                  rw [if_neg h0, if_neg h1]
                  exact HMG.out.set HXG.out H3.out HT.out hwc _ _ rfl
        case rest =>
          obtain ⟨T9, y, hbc, hsf, hrs, hmi9, hoi9⟩ := hcut
          obtain ⟨⟨y0, y1, y2, y3, y4, y5, y6, y7, y8, y9, yd, yr⟩, yb, yl⟩ := y
          have hrs' := hrs
          obtain ⟨⟨D9, dc9, e9, _, _⟩, R9, rc9, cells9, e8, _⟩ := hrs'
          obtain ⟨q9, hq9⟩ : ∃ q9, yb.length = q9 := ⟨_, rfl⟩
          obtain ⟨m9, hm9⟩ : ∃ m9, yl.length = m9 := ⟨_, rfl⟩
          dsimp only at e9 e8
          rw [hq9] at e9
          rw [hm9] at e8
          subst e9 e8
          have j0 := hbc.cell 0 _ rfl
          have j1 := hbc.cell 1 _ rfl
          have j2 := hbc.cell 2 _ rfl
          have j3 := hbc.cell 3 _ rfl
          have j4 := hbc.cell 4 _ rfl
          have j5 := hbc.cell 5 _ rfl
          have j6 := hbc.cell 6 _ rfl
          have j7 := hbc.cell 7 _ rfl
          have j8 := hbc.cell 8 _ rfl
          have j9 := hbc.cell 9 _ rfl
          have j10 := hbc.cell 10 _ rfl
          have j11 := hbc.cell 11 _ rfl
          have HSF := Lib.hid hsf
          have hmA := hmi9.below ((Below.refl _ _).alloc (Nat.le_refl _) (.cells #[.int .i64 y0, .int .i64 y1, .int .i64 y2, .int .i64 y3, .int .i64 y4, .bool y5, .int .i64 y6, .int .i64 y7, .int .i64 y8, .int .i64 y9, .slice D9 q9 dc9, .slice R9 m9 rc9] TC))
          have HRA := Lib.hid (hrs.below ((Below.refl _ _).alloc (Nat.le_refl _) (.cells #[.int .i64 y0, .int .i64 y1, .int .i64 y2, .int .i64 y3, .int .i64 y4, .bool y5, .int .i64 y6, .int .i64 y7, .int .i64 y8, .int .i64 y9, .slice D9 q9 dc9, .slice R9 m9 rc9] TC)))
          have HOA := Lib.hid (hoi9.below ((Below.refl _ _).alloc (Nat.le_refl _) (.cells #[.int .i64 y0, .int .i64 y1, .int .i64 y2, .int .i64 y3, .int .i64 y4, .bool y5, .int .i64 y6, .int .i64 y7, .int .i64 y8, .int .i64 y9, .slice D9 q9 dc9, .slice R9 m9 rc9] TC)))
          have hra := hmA.row
          have e6 := madeL_length os ws k
          rw [e6] at hra
          have HRW := Lib.hid hra
          have HMA := Lib.hid hmA
          have HBL := Lib.hid (hmi9.bel)
          clear hbc hsf hrs hmi9 hoi9 hmA hra e6 hq9 hm9
          go_upto_region 26 with (first
            | (at_builtin; refine wpList_append_sees rfl (.tmp 111) (.tmp 113) 40 rfl w.heap.size TC (.agg zeros12) 12 128 Try.underlying40 infoCallR rfl (by decide) (.slice A3 k c3) k ((ys.map fun y => y.1.cells.toList).flatten) rfl HRW.out (some ⟨wc.heap.size, 0, none⟩) 1 1 [.int .i64 y0, .int .i64 y1, .int .i64 y2, .int .i64 y3, .int .i64 y4, .bool y5, .int .i64 y6, .int .i64 y7, .int .i64 y8, .int .i64 y9, .slice D9 q9 dc9, .slice R9 m9 rc9] rfl rfl (sees_new _ _ _) (by simp [Value.oneCell']) (by simp only [maxLen]; omega) (by omega) HMA.out.bel.size ?_; intro A6 c6 w6 hown6 hg6 hat6; have HM6 := Lib.hid (made_more HMA.out HSF.out HRA.out hown6 hg6 hat6); have HO6 := Lib.hid (HOA.out.grown HRW.out (by decide) hg6); clear hown6 hg6 hat6)
            | fail)
          obtain ⟨WB, hWB⟩ : ∃ WB, w6.alloc (.cells #[.int .i64 (k : Int)] 3) = WB := ⟨_, rfl⟩
          have hbB : Below w6.heap.size w6 WB := by rw [← hWB]; exact (Below.refl _ _).alloc (Nat.le_refl _) _
          have hsB : Sees WB (some ⟨w6.heap.size, 0, none⟩) [.int .i64 (k : Int)] := by rw [← hWB]; exact sees_new _ _ _
          have HMB6 := Lib.hid (HM6.out.below hbB)
          have HOB6 := Lib.hid (HO6.out.below hbB)
          have HSB6 := Lib.hid hsB
          have HWB := Lib.hid hWB
          clear hWB hbB hsB
          go_wp2_with (first
            | (at_builtin; go_loud (rw [HWB.out]; refine wpList_append_sees rfl (.tmp 115) (.tmp 117) 41 rfl w.heap.size 3 (.int .i64 0) 1 8 Try.underlying41 infoIntM rfl (by decide) (.slice A4 k c4) k ((upTo k).map i64v) rfl HOB6.out.row (some ⟨w6.heap.size, 0, none⟩) 1 1 [.int .i64 (k : Int)] rfl rfl HSB6.out (by simp [Value.oneCell']) (by simp only [maxLen]; omega) (by omega) HMB6.out.bel.size ?_); intro A7 c7 w7 hown7 hg7 hat7; have HO7 := Lib.hid (HOB6.out.more (fun b hb => (HMB6.out.low b hb).2) hown7 hat7); have HM7 := Lib.hid (HMB6.out.grown HOB6.out.row (Nat.le_refl _) (by decide) (by decide) (by decide) HOB6.out.far hg7); clear hown7 hg7 hat7)
            | fail)
          go_roundw
          case rel => exact ⟨k + 1, A6, c6, A7, c7, T9, _, rfl, rfl, by go_num, by omega, by omega, HM7.out.order HO7.out, HO7.out⟩
          case measure => simp [intOf] <;> omega
    · have hx : (¬ (k : Int) < (n : Int)) ∨ ((k : Int) < (n : Int) ∧ ¬ (k : Int) < 60) := by omega
      have hyl : ys.length = k := by rw [hmi.len, madeL_length]
      have hsm := same_small hmi.len hmi.same (made_small hk60 HBYT.out)
      have HOWN := Lib.hid (own_any A3 ys k c3 wr hmi.seen hyl (by omega) hsm)
      have HSEE4 := Lib.hid ((sees_own' HOI.out.row).2.2.2)
      have HYL := Lib.hid hyl
      have HSM := Lib.hid hsm
      clear hyl hsm hmi hlt
      rcases hx with hki | ⟨hki, hki2⟩
      all_goals
        rcases Nat.eq_zero_or_pos k with hk0 | hk0
        · have hkz : ((k : Int) == 0) = true := by simpa using hk0
          clear hk0
          go_wp2_with (first
            | (go_at_call 22; refine HOWN.out.mono ?_; rintro e w3 ⟨A11, c11, gc, zs, rfl, hzl, hzs, hzf, hgc, hb3⟩; rw [HYL.out] at hzf ⊢; have HLEG := Lib.hid (legal_any (cp := c11) (oc := c4) w3 hzf hgc (by omega) (HSEE4.out.below hb3) (upTo_length k) (by omega) (same_data hzs hzl HSM.out)); have HLW := Lib.hid (made_legal (os := os) (ws := ws) hk60 (hzl.trans HYL.out) (made_chain HMI.out.same HMI.out.len hzs hzl)); have HB3 := Lib.hid hb3; clear hzl hzs hzf hgc hb3)
            | (go_at_call 21; refine HLEG.out.mono ?_; rintro e w4 ⟨la, le, rfl, hlg, hb4⟩; obtain ⟨rfl, rfl⟩ := hlg.one HLW.out; have HB4 := Lib.hid (below_step HB3.out HB3.out.size hb4); clear hlg hb4)
            | (go_at_call 23; refine (num_any _ _).mono ?_; rintro e w5 ⟨rfl, rfl⟩)
            | (go_at_call 10; refine (knows_any _).mono ?_; rintro e w6 ⟨rfl, hb6⟩; have HB6 := Lib.hid (below_step HMI.out.bel HMI.out.bel.size (below_step HB4.out HB4.out.size hb6)); clear hb6)
            | fail)
          go_ret
          exact ⟨rfl, HB6.out⟩
        · have hkz : ((k : Int) == 0) = false := by
            have h9 : (k : Int) ≠ 0 := by omega
            simpa using h9
          have hkp : (0 : Int) < (k : Int) := by omega
          clear hk0
          go_upto_region 30 with (first
            | (go_at_call 22; refine HOWN.out.mono ?_; rintro e w3 ⟨A11, c11, gc, zs, rfl, hzl, hzs, hzf, hgc, hb3⟩; rw [HYL.out] at hzf ⊢; have HLEG := Lib.hid (legal_any (cp := c11) (oc := c4) w3 hzf hgc (by omega) (HSEE4.out.below hb3) (upTo_length k) (by omega) (same_data hzs hzl HSM.out)); have HLW := Lib.hid (made_legal (os := os) (ws := ws) hk60 (hzl.trans HYL.out) (made_chain HMI.out.same HMI.out.len hzs hzl)); have HB3 := Lib.hid hb3; clear hzl hzs hzf hgc hb3)
            | (go_at_call 21; refine HLEG.out.mono ?_; rintro e w4 ⟨la, le, rfl, hlg, hb4⟩; obtain ⟨rfl, rfl⟩ := hlg.one HLW.out; have HB4 := Lib.hid (below_step HB3.out HB3.out.size hb4); clear hlg hb4)
            | (go_at_call 23; refine (num_any _ _).mono ?_; rintro e w5 ⟨rfl, rfl⟩)
            | fail)
          have h1 := Int.tmod_lt_of_pos kk hkp
          have h2 : -(k : Int) < kk.tmod k := Int.lt_tmod_of_pos kk hkp
          have e1 : IntKind.i64.wrap (kk.tmod k + k) = kk.tmod k + k := IntWalk.i64_in _ (by omega)
          obtain ⟨j, hj, hjk⟩ : ∃ j : Nat, (kk.tmod k + k).tmod k = (j : Int) ∧ j < k := by
            have h3 : 0 ≤ kk.tmod k + k := by omega
            have h4 := Int.tmod_lt_of_pos (kk.tmod k + k) hkp
            have h5 := Int.tmod_nonneg (k : Int) h3
            exact ⟨((kk.tmod k + k).tmod k).toNat, by omega, by omega⟩
          have hm4 := HMI.out.below HB4.out
          have ho4 := HOI.out.below HB4.out
          have hrow := hm4.row
          rw [madeL_length] at hrow
          obtain ⟨hkc, g3, rfl, hg1, hg2⟩ := own_pos hrow (by omega)
          have hjl : j < ys.length := by rw [HYL.out]; exact hjk
          obtain ⟨y, hy⟩ : ∃ y, ys[j]? = some y := ⟨_, List.getElem?_eq_getElem hjl⟩
          have hsf : SameF (madeAt os ws j) y := by
            have h9 := SameF.at HMI.out.same HMI.out.len (i := j) (by rw [madeL_length]; exact hjk)
            rw [madeL_at hjk] at h9
            have h8 : atF ys (j : Int) = y := by
              unfold atF
              rw [Int.toNat_natCast, List.getD_eq_getElem?_getD, hy]
              rfl
            rwa [h8] at h9
          obtain ⟨b1, b2⟩ := made_ints (os := os) (ws := ws) (j := j) (by omega)
          have s1 : y.1.kind = (madeAt os ws j).1.kind := by rw [hsf.2]
          have s2 : y.1.start = (madeAt os ws j).1.start := by rw [hsf.2]
          have s3 : y.1.number = (madeAt os ws j).1.number := by rw [hsf.2]
          rw [← s1, ← s2] at b1
          rw [← s1, ← s3] at b2
          obtain ⟨⟨y0, y1, y2, y3, y4, y5, y6, y7, y8, y9, yd, yr⟩, yb, yl⟩ := y
          dsimp only at b1 b2
          have j3 : w4.cell? ⟨g3, j * 12 + 3, none⟩ = some (.int .i64 y3) := by
            rw [hrow.cellAt (j * 12 + 3) (by omega)]
            exact calls_cells hy rfl
          have j8 : w4.cell? ⟨g3, j * 12 + 8, none⟩ = some (.int .i64 y8) := by
            rw [hrow.cellAt (j * 12 + 8) (by omega)]
            exact calls_cells hy rfl
          have j9 : w4.cell? ⟨g3, j * 12 + 9, none⟩ = some (.int .i64 y9) := by
            rw [hrow.cellAt (j * 12 + 9) (by omega)]
            exact calls_cells hy rfl
          have f8 := hrow.frozenAt (j * 12 + 8)
          have f9 := hrow.frozenAt (j * 12 + 9)
          have hjki : (j : Int) < (k : Int) := by omega
          have HM4 := Lib.hid hm4
          have HO4 := Lib.hid ho4
          have HY := Lib.hid hy
          have HJ := Lib.hid hjk
          clear s1 s2 s3 hy hsf hrow hm4 ho4
          go_upto_if 155 with (fail)
          go_cut [] from 155 to 176 (fun wc => TurnD w os ws k j g3 A4 wc)
          case first =>
            by_cases h3 : y3 = 3
            · have hb := b1 h3
              subst h3
              have e2 : IntKind.i64.wrap (y9 + 1) = y9 + 1 := IntWalk.i64_in _ (by omega)
              go_wp2_with fail
              go_meet
              case rel => exact turn_done HM4.out HO4.out HSM.out HJ.out HY.out 9 (by decide) _ rfl
            · have hb := b2 h3
              have d3 : (y3 == 3) = false := by simpa using h3
              have e2 : IntKind.i64.wrap (y8 + 1) = y8 + 1 := IntWalk.i64_in _ (by omega)
              go_wp2_with fail
              go_meet
              case rel =>
                refine turn_done HM4.out HO4.out HSM.out HJ.out HY.out 8 (by decide) _ ?_
                unfold turned
                rw [if_neg h3]
                rfl
          case rest =>
            obtain ⟨ys2, t1, t2, t3, t4, t5, t6, t7⟩ := hcut
            have HOWN2 := Lib.hid (own_any (some ⟨g3, 0, none⟩) ys2 k c3 wc t4 t1 (by omega) t5)
            have HT1 := Lib.hid t1
            have HT2 := Lib.hid t2
            have HT3 := Lib.hid t3
            have HT5 := Lib.hid t5
            have HT6 := Lib.hid t6
            have HT7 := Lib.hid t7
            clear t1 t2 t3 t4 t5 t6 t7
            go_wp2_with (first
              | (go_at_call 22; refine HOWN2.out.mono ?_; rintro e w5 ⟨A12, c12, gc2, zs2, rfl, hzl, hzs, hzf, hgc, hb5⟩; rw [HT1.out] at hzf ⊢; have HLEG2 := Lib.hid (legal_any (cp := c12) (oc := c4) w5 hzf hgc (by omega) (HT6.out.below hb5) (upTo_length k) (by omega) (same_data hzs hzl HT5.out)); have HLW2 := Lib.hid (made_wrong (os := os) (ws := ws) (ys := zs2) hk60 HJ.out (hzl.trans HT1.out) (fun i hi hne => (HT2.out i hi hne).trans (SameF.at hzs hzl (by rw [HT1.out]; exact hi))) (HT3.out.trans (SameF.at hzs hzl (by rw [HT1.out]; exact HJ.out)))); have HB5 := Lib.hid (below_step HT7.out HT7.out.size hb5); clear hzl hzs hzf hgc hb5)
              | (go_at_call 21; refine HLEG2.out.mono ?_; rintro e w6 ⟨la2, le2, rfl, hlg, hb6⟩; obtain ⟨rfl, rfl⟩ := hlg.one HLW2.out; have HB6 := Lib.hid (below_step HB5.out HB5.out.size hb6); clear hlg hb6)
              | (go_at_call 23; refine (num_any _ _).mono ?_; rintro e w7 ⟨rfl, rfl⟩)
              | (go_at_call 10; refine (knows_any _).mono ?_; rintro e w8 ⟨rfl, hb8⟩; have HB8 := Lib.hid (below_step HB6.out HB6.out.size hb8); clear hb8)
              | fail)
            go_ret
            exact ⟨rfl, HB8.out⟩
end Go.Proofs.Ytbnbeailbhnbdaa
