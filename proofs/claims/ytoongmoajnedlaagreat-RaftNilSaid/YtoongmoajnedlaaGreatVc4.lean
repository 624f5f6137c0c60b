/-
  A list without one server: slices.DeleteFunc with the closure of others (out of layer 11).
-/
import Derived.Test.YtoongmoajnedlaaGreatVcA
import Derived.Laws.CopyRow
set_option linter.unusedVariables false
set_option linter.unusedSimpArgs false
set_option maxRecDepth 100000
namespace Go.Proofs.YtoongmoajnedlaaGreat.C
open Go.RowKit

section
variable {P : Program}
/-- 'clear' of a part of a row. -/
theorem run_clear_row (w : World) (t ty e : TypeId) (i : TypeInfo) (z : Value) (ht : P.underlying t = some (.slice e)) (hi : P.info? e = some i) (hz : i.zero = some z)
    (g off m c : Nat) (cur : Array Value) (hcur : w.heap[g]? = some (.cells cur e (0, 0))) (zs : List Value) (hzs : (Builtin.zeroCells z.cells m).toList = zs) (h1 : ∀ u ∈ zs, u.oneCell' = true) (hm : m ≠ 0) (hfit : off + zs.length ≤ cur.size) :
    (Builtin.clear_ #[t] ty #[.slice (some ⟨g, off, none⟩) m c]).run P w = .ok (.tuple #[]) (w.setRow g (cur.toList.take off ++ zs ++ cur.toList.drop (off + zs.length)).toArray) := by
  have hst := run_storeCells_at (P := P) g off e zs 0 cur w hcur (by simpa using hfit) h1
  simp only [Nat.add_zero] at hst
  have hzv : (zeroValue e).run P w = .ok z w := by simp [zeroValue, typeInfo, hi, hz]
  unfold Builtin.clear_
  cases m with
  | zero => exact absurd rfl hm
  | succ m => simp [run_underlying ht, hzv, hzs, hst, Result.andThen]
theorem wpList_clear_row {ops : Array Oper} {rest : List Oper} {o : Oper} {a : Act} {Q : Exit → Act → World → Prop} {w : World} (hgd : o.guard = none) (s : Operand) (t : TypeId)
    (ho : o.op = .call { callee := .builtin .clear, args := #[s], argTypes := #[t] }) (e : TypeId) (i : TypeInfo) (z : Value) (ht : P.underlying t = some (.slice e)) (hi : P.info? e = some i) (hz : i.zero = some z)
    (g off m c : Nat) (cur : Array Value) (hcur : w.heap[g]? = some (.cells cur e (0, 0))) (hs : a.eval s = .slice (some ⟨g, off, none⟩) m c) (zs : List Value) (hzs : (Builtin.zeroCells z.cells m).toList = zs) (h1 : ∀ u ∈ zs, u.oneCell' = true) (hm : m ≠ 0) (hfit : off + zs.length ≤ cur.size)
    (h : wpList P ops Q rest (a.put o.dst (.tuple #[])) (w.setRow g (cur.toList.take off ++ zs ++ cur.toList.drop (off + zs.length)).toArray)) : wpList P ops Q (o :: rest) a w := by
  refine wpList_plain hgd fun K hK => ?_
  have hr := run_clear_row (P := P) w t o.type e i z ht hi hz g off m c cur hcur zs hzs h1 hm hfit
  unfold Oper.wp execOp
  simp only [ho, resolve, invoke, builtin, Sem.run_bind, Sem.run_pure, Result.andThen_ok, List.map_toArray, List.map_cons, List.map_nil, hs, hr]
  exact hK _ _ h
end
/-- The closure's box holds the server, whose own number is x. -/
def Cap (w : World) (b r : Nat) (x : Int) : Prop := w.cell? ⟨b, 0, none⟩ = some (.pointer (some ⟨r, 0, none⟩)) ∧ w.cell? ⟨r, 17, none⟩ = some (.int .i64 x)
theorem closure_any (x y : Int) (b r : Nat) (w : World) (h : Cap w b r y) : Calls Tryz.prog 128 #[.int .i64 x, .pointer (some ⟨b, 0, none⟩)] w fun e w' => e = .returned (.bool (x == y)) ∧ w = w' := by
  obtain ⟨h1, h2⟩ := h
  go_enter Tryz.func128, Tryz.ntmps128
  go_wp2
  go_ret
  exact ⟨rfl, rfl⟩
def funV (b : Nat) : Value := .func (.func 128) #[] #[.pointer (some ⟨b, 0, none⟩)]
def RetIdx (is : List Int) (x : Int) (w : World) (e : Ending) (w' : World) : Prop := w = w' ∧ ((e = .returned (.int .i64 (-1)) ∧ hasB is x = false) ∨ ∃ k : Nat, k < is.length ∧ e = .returned (.int .i64 (k : Int)) ∧ is.getD k 0 = x ∧ hasB (is.take k) x = false)
theorem indexFunc_any (A : Option Addr) (is : List Int) (c : Nat) (b r : Nat) (x : Int) (w : World) (hc : is.length ≤ c) (hl : is.length ≤ 140737488355328) (h : Sees w A (is.map i64v)) (hb : Cap w b r x) :
    Calls Tryz.prog 165 #[.slice A is.length c, funV b] w (RetIdx is x w) := by
  have H := Lib.hid h
  clear h
  unfold funV
  go_enter Tryz.func165, Tryz.ntmps165
  go_wp2
  go_loop [8] (fun s => ∃ k : Nat, s = .int .i64 (k : Int) ∧ k ≤ is.length ∧ hasB (is.take k) x = false) (fun s => is.length - (intOf s).toNat)
  case atStart => exact ⟨0, rfl, Nat.zero_le _, rfl⟩
  case round =>
    obtain ⟨k, rfl, hk, hno⟩ := hrel
    have HNO := Lib.hid hno
    clear hno
    by_cases hlt : k < is.length
    · obtain ⟨ad, rfl, hcell⟩ := ints_at H.out k hlt
      have hki : (k : Int) < (is.length : Int) := by omega
      have HT := Lib.hid (hasB_take (x := x) hlt)
      have HG := Lib.hid (getD_at hlt)
      by_cases hx : is[k] = x
      · have hb1 : (is[k] == x) = true := by simp [hx]
        have HX := Lib.hid hx
        clear hx
        go_wp2_with (first
          | (go_at_call 128; refine (closure_any _ x _ _ _ hb).mono ?_; rintro e w' ⟨rfl, rfl⟩)
          | fail)
        go_ret
        exact ⟨rfl, .inr ⟨k, hlt, rfl, by rw [HG.out, HX.out], HNO.out⟩⟩
      · have hb1 : (is[k] == x) = false := by simp [hx]
        have HX := Lib.hid hx
        clear hx
        go_wp2_with (first
          | (go_at_call 128; refine (closure_any _ x _ _ _ hb).mono ?_; rintro e w' ⟨rfl, rfl⟩)
          | fail)
        go_round
        case rel => exact ⟨k + 1, by go_num, by omega, by rw [HT.out, HNO.out]; simp [HX.out]⟩
        case measure => simp [intOf]; omega
    · obtain rfl : k = is.length := by omega
      have hki : ¬ ((is.length : Int) < (is.length : Int)) := by omega
      go_wp2
      go_ret
      have := HNO.out
      rw [List.take_length] at this
      exact ⟨rfl, .inl ⟨rfl, this⟩⟩
theorem indexFunc_no (A : Option Addr) (is : List Int) (c : Nat) (b r : Nat) (x : Int) (w : World) (hc : is.length ≤ c) (hl : is.length ≤ 140737488355328) (h : Sees w A (is.map i64v)) (hb : Cap w b r x) (hx : hasB is x = false) :
    Calls Tryz.prog 165 #[.slice A is.length c, funV b] w fun e w' => e = .returned (.int .i64 (-1)) ∧ w = w' :=
  (indexFunc_any A is c b r x w hc hl h hb).mono fun e w' ⟨hw, hr⟩ => by
    rcases hr with ⟨h1, _⟩ | ⟨k, hk, _, h3, _⟩
    · exact ⟨h1, hw⟩
    · rw [getD_at hk] at h3
      rw [hasB_yes hk h3] at hx
      cases hx
def RetIdxY (is : List Int) (x : Int) (w : World) (e : Ending) (w' : World) : Prop := ∃ k : Nat, k < is.length ∧ e = .returned (.int .i64 (k : Int)) ∧ is.getD k 0 = x ∧ hasB (is.take k) x = false ∧ w = w'
theorem indexFunc_yes (A : Option Addr) (is : List Int) (c : Nat) (b r : Nat) (x : Int) (w : World) (hc : is.length ≤ c) (hl : is.length ≤ 140737488355328) (h : Sees w A (is.map i64v)) (hb : Cap w b r x) (hx : hasB is x = true) :
    Calls Tryz.prog 165 #[.slice A is.length c, funV b] w (RetIdxY is x w) :=
  (indexFunc_any A is c b r x w hc hl h hb).mono fun e w' ⟨hw, hr⟩ => by
    rcases hr with ⟨_, h2⟩ | ⟨k, hk, h1, h3, h4⟩
    · rw [hx] at h2
      cases h2
    · exact ⟨k, hk, h1, h3, h4, hw⟩
def filt (is : List Int) (x : Int) : List Int := is.filter fun i => !(i == x)
theorem filt_no {is : List Int} {x : Int} (h : hasB is x = false) : filt is x = is := by
  unfold filt
  rw [List.filter_eq_self]
  intro i hi
  unfold hasB at h
  rw [List.any_eq_false] at h
  simpa using h i hi
theorem filt_take {is : List Int} {x : Int} {k : Nat} (hk : k < is.length) : filt (is.take (k + 1)) x = filt (is.take k) x ++ if is[k] = x then [] else [is[k]] := by
  unfold filt
  rw [List.take_succ_eq_append_getElem hk, List.filter_append]
  congr 1
  by_cases h : is[k] = x <;> simp [h]
theorem own_set {w : World} {base g n c : Nat} {is : List Int} (h : w.ownsRow base 3 1 (.slice (some ⟨g, 0, none⟩) n c) n (is.map i64v)) (j : Nat) (y : Int) :
    (w.setCell ⟨g, j, none⟩ (.int .i64 y)).ownsRow base 3 1 (.slice (some ⟨g, 0, none⟩) n c) n ((is.set j y).map i64v) := by
  have hs := (h.stored j (.int .i64 y)).1
  rw [show (is.set j y).map i64v = (is.map i64v).set j (.int .i64 y) from by simp [i64v, List.map_set]]
  exact hs
theorem zeroCells_int (m : Nat) : (Builtin.zeroCells (Value.int .i64 0).cells m).toList = List.replicate m (.int .i64 0) := by
  simp [Builtin.zeroCells, Value.cells]
  refine List.ext_getElem (by simp) fun i h1 h2 => ?_
  simp [Nat.mod_one]
def RetDelF (base : Nat) (A : Option Addr) (c : Nat) (is : List Int) (x : Int) (w : World) (e : Ending) (w' : World) : Prop :=
  e = .returned (.slice A (filt is x).length c) ∧ w'.ownsRow base 3 1 (.slice A (filt is x).length c) (filt is x).length ((filt is x).map i64v) ∧ Outside (fun b => (Value.slice A is.length c).ownBlock = some b) w w'
/-- Between two rounds of DeleteFunc. -/
def DelLoop (base : Nat) (A : Option Addr) (c : Nat) (is : List Int) (x : Int) (w : World) (s5 s6 : Value) (wr : World) : Prop :=
  ∃ (i j : Nat) (rs : List Int), s5 = .int .i64 (i : Int) ∧ s6 = .int .i64 (j : Int) ∧ i < j ∧ j ≤ is.length ∧ rs.length = is.length ∧ rs.take i = filt (is.take j) x ∧ (∀ t, j ≤ t → rs.getD t 0 = is.getD t 0) ∧ wr.ownsRow base 3 1 (.slice A is.length c) is.length (rs.map i64v) ∧ Outside (fun b => (Value.slice A is.length c).ownBlock = some b) w wr
set_option maxHeartbeats 2000000 in
theorem deleteFunc_any {base : Nat} (A : Option Addr) (is : List Int) (c b r : Nat) (x : Int) (w : World) (h : w.ownsRow base 3 1 (.slice A is.length c) is.length (is.map i64v)) (hl : is.length ≤ 140737488355328) (hb : Cap w b r x) (hne : ∀ q, (Value.slice A is.length c).ownBlock = some q → q ≠ b ∧ q ≠ r) :
    Calls Tryz.prog 127 #[.slice A is.length c, funV b] w (RetDelF base A c is x w) := by
  obtain ⟨_, hlc, hcm, hsee⟩ := sees_own' h
  unfold maxLen at hcm
  have H := Lib.hid h
  have HS := Lib.hid hsee
  have HB := Lib.hid hb
  have HNE := Lib.hid hne
  clear h hsee hb hne
  cases hx : hasB is x with
  | false =>
    have HF := Lib.hid (filt_no hx)
    have HIN := Lib.hid (indexFunc_no A is c b r x w hlc hl HS.out HB.out hx)
    unfold funV at HIN ⊢
    clear hx
    go_enter Tryz.func127, Tryz.ntmps127
    go_wp2_with (first
      | (go_at_call 165; refine HIN.out.mono ?_; rintro e w' ⟨rfl, rfl⟩)
      | fail)
    go_ret
    exact ⟨by rw [HF.out]; rfl, by rw [HF.out]; exact H.out, Outside.refl _ _⟩
  | true =>
    have HIN := Lib.hid (indexFunc_yes A is c b r x w hlc hl HS.out HB.out hx)
    unfold funV at HIN ⊢
    clear hx
    go_enter Tryz.func127, Tryz.ntmps127
    go_wp2_with fail
    refine HIN.out.mono ?_
    rintro e _ ⟨k, hk, rfl, hkx, hkt, rfl⟩
    have hk1 : ((k : Int) == -1) = false := by simp
    have HKX := Lib.hid hkx
    have HKT := Lib.hid hkt
    clear hkx hkt
    go_wp2_with fail
    go_loopw [5, 6] (fun s5 s6 wr => DelLoop base A c is x w s5 s6 wr) (fun _ s6 _ => is.length - (intOf s6).toNat)
    case atStart =>
      refine ⟨k, k + 1, is, rfl, by go_num, by omega, by omega, rfl, ?_, fun t ht => rfl, H.out, Outside.refl _ _⟩
      rw [filt_take hk, filt_no HKT.out, if_pos (by rw [← getD_at hk]; exact HKX.out), List.append_nil]
    case round =>
      obtain ⟨i, j, rs, rfl, rfl, hij, hjn, hrl, hti, hrest, hown, hout⟩ := hrel
      obtain ⟨_, g, rfl, hg, hgl⟩ := own_pos hown (by omega)
      have hbr : Cap wr b r x := ⟨(World.cell?_of_block (hout.block b (World.block_lt_of_cell? w _ HB.out.1) (fun e => (HNE.out _ e).1 rfl))).trans HB.out.1, (World.cell?_of_block (hout.block r (World.block_lt_of_cell? w _ HB.out.2) (fun e => (HNE.out _ e).2 rfl))).trans HB.out.2⟩
      have HTI := Lib.hid hti
      have HRE := Lib.hid hrest
      have HOW := Lib.hid hown
      have HOU := Lib.hid hout
      by_cases hlt : j < is.length
      · obtain ⟨ad, e, hcell⟩ := ints_at (sees_own' hown).2.2.2 j (by omega)
        cases e
        rw [add_base] at hcell
        have hji : (j : Int) < (is.length : Int) := by omega
        have hv := hrest j (Nat.le_refl _)
        rw [getD_at (by omega), getD_at hlt] at hv
        have hfz := own_fz' hown i
        obtain ⟨v, hvv⟩ : ∃ v, is[j] = v := ⟨_, rfl⟩
        rw [hv, hvv] at hcell
        have HV := Lib.hid hvv
        have HFT := Lib.hid (filt_take (x := x) hlt)
        clear hv hti hrest hown hout
        by_cases hvx : v = x
        · have hb1 : (v == x) = true := by simp [hvx]
          have HVX := Lib.hid hvx
          clear hvx
          go_wp2_with (first
            | (go_at_call 128; refine (closure_any _ x _ _ _ hbr).mono ?_; rintro e w' ⟨rfl, rfl⟩)
            | fail)
          go_roundw
          case rel => exact ⟨i, j + 1, rs, rfl, by go_num, by omega, by omega, hrl, by rw [HFT.out, HTI.out, if_pos (by rw [HV.out, HVX.out]), List.append_nil], fun t ht => HRE.out t (by omega), HOW.out, HOU.out⟩
          case measure => simp [intOf]; omega
        · have hb1 : (v == x) = false := by simp [hvx]
          have HVX := Lib.hid hvx
          clear hvx
          have hii : (i : Int) < (is.length : Int) := by omega
          obtain ⟨u, hu⟩ : ∃ u, wr.cell? ⟨g, i, none⟩ = some u := by
            obtain ⟨ad, e, hcu⟩ := ints_at (sees_own' HOW.out).2.2.2 i (by omega)
            cases e
            rw [add_base] at hcu
            exact ⟨_, hcu⟩
          go_wp2_with (first
            | (go_at_call 128; refine (closure_any _ x _ _ _ hbr).mono ?_; rintro e w' ⟨rfl, rfl⟩)
            | fail)
          go_roundw
          case rel =>
            refine ⟨i + 1, j + 1, rs.set i v, by go_num, by go_num, by omega, by omega, by simpa using hrl, ?_, fun t ht => ?_, own_set HOW.out i v, HOU.out.set ⟨g, i, none⟩ _ (.inr rfl)⟩
            · rw [HFT.out, ← HTI.out, if_neg (by rw [HV.out]; exact HVX.out), HV.out, List.take_succ_eq_append_getElem (by rw [List.length_set]; omega), List.take_set_of_le (Nat.le_refl _)]
              simp
            · rw [← HRE.out t (by omega)]
              simp [List.getD_eq_getElem?_getD, List.getElem?_set, show i ≠ t by omega]
          case measure => simp [intOf]; omega
      · obtain rfl : j = is.length := by omega
        have hji : ¬ ((is.length : Int) < (is.length : Int)) := by omega
        obtain ⟨hcl, hh⟩ := id hown
        rcases hh with ⟨hv, _⟩ | ⟨g', cap, cur, hv, hbg, hcur, hn', hm', hs', ht'⟩
        · cases hv
        cases hv
        have hFL : (filt is x).length = i := by
          have := congrArg List.length hti
          rw [List.take_length, List.length_take] at this
          omega
        have HFL := Lib.hid hFL
        obtain ⟨X, hX, eX⟩ := slice_from (P := Tryz.prog) 23 1 Tryz.underlying23 (by kernel_rfl) ⟨g, 0, none⟩ is.length c i (i : Int) rfl (by omega)
        have eX3 : X = ⟨g, i, none⟩ := by rw [eX, if_neg (by omega), Nat.mul_one, add_base]
        subst eX3
        obtain ⟨i0, hi0, hz0, hz1, hz2⟩ := info_three infoInt
        have hs'' : cur.size = c := by simpa using hs'
        have HCS := Lib.hid hs''
        have HT' := Lib.hid ht'
        have HCUR := Lib.hid hcur
        have hone : ∀ u ∈ List.replicate (is.length - i) (Value.int .i64 0), u.oneCell' = true := by
          intro u hu
          rw [List.eq_of_mem_replicate hu]
          rfl
        have hii : (i : Int) ≤ (c : Int) := by omega
        clear hcl hs' ht' hti hrest hFL eX hs'' hcur hown hout
        go_wp2_with (first
          | (refine wpList_clear_row rfl (.tmp 38) 23 rfl 3 i0 (.int .i64 0) Tryz.underlying23 hi0 hz0 g i (is.length - i) (c - i) cur HCUR.out rfl (List.replicate (is.length - i) (.int .i64 0)) (zeroCells_int _) hone (by omega) (by rw [HCS.out, List.length_replicate]; omega) ?_)
          | fail)
        go_ret
        have hcs := HCS.out
        refine ⟨?_, ?_, ?_⟩
        · rw [HFL.out]; rfl
        · rw [HFL.out]
          refine ⟨by rw [List.length_map, HFL.out, Nat.mul_one], .inr ⟨g, c, _, rfl, hbg, setRow_heap _ _ _ _ _ _ HCUR.out, by omega, hm', ?_, ?_⟩⟩
          · simp; omega
          · have h1 := HTI.out
            rw [List.take_length] at h1
            have h2 := HT'.out
            have h3 : cur.toList.take i = (filt is x).map i64v := by
              rw [← h1, List.map_take, ← h2, Nat.mul_one, List.take_take, Nat.min_eq_left (by omega)]
            simp only [Nat.mul_one, List.append_assoc]
            exact (List.take_left' (by rw [List.length_take, Array.length_toList]; omega)).trans h3
        · refine ⟨HOU.out.os, HOU.out.tape, HOU.out.output, by simpa using HOU.out.size, fun b' hb' hs => (setRow_other _ _ _ _ (fun e => hs (by rw [e]; rfl))).trans (HOU.out.block b' hb' hs)⟩
end Go.Proofs.YtoongmoajnedlaaGreat.C
