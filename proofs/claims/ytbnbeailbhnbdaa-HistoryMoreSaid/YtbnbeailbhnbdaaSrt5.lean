/-
  slices' stable sort at numbers: symMerge where the right side is a single number.
-/
import Derived.Test.YtbnbeailbhnbdaaSrt4
set_option linter.unusedVariables false
set_option linter.unusedSimpArgs false
namespace Go.Proofs.Ytbnbeailbhnbdaa
open Go.RowKit

def SymInR (g a m : Nat) (lt : Int → Int → Bool) (L ds : List Int) (y : Int) (w : World) (s14 s15 : Value) (wr : World) : Prop :=
  ∃ i j : Nat, s14 = .int .i64 (i : Int) ∧ s15 = .int .i64 (j : Int) ∧ a ≤ i ∧ i ≤ j ∧ j ≤ m ∧ (i = a ∨ lt y (L.getD (i - a - 1) 0) = false) ∧ (j = m ∨ lt y (L.getD (j - a) 0) = true) ∧ ArrAt g ds wr ∧ Outside (· = g) w wr
def SymSwapR (g a q : Nat) (P L S : List Int) (y : Int) (w : World) (s17 : Value) (wr : World) : Prop :=
  ∃ t k : Nat, s17 = .int .i64 (k : Int) ∧ a + t = k ∧ q ≤ t ∧ t ≤ L.length ∧ ArrAt g (P ++ (L.take t ++ y :: (L.drop t ++ S))) wr ∧ Outside (· = g) w wr
theorem symR_step (P R S : List Int) (x : Int) {t : Nat} (ht : t < R.length) : swapL (P ++ (R.take (t + 1) ++ x :: (R.drop (t + 1) ++ S))) (P.length + t + 1) (P.length + t) = P ++ (R.take t ++ x :: (R.drop t ++ S)) := by
  have h1 : R.drop t = R[t] :: R.drop (t + 1) := by rw [List.getElem_cons_drop]
  have h2 : R.take (t + 1) = R.take t ++ [R[t]] := by rw [List.take_succ_eq_append_getElem (by omega)]
  have := swap_next (P ++ R.take t) (R.drop (t + 1) ++ S) R[t] x
  rw [List.length_append, List.length_take, Nat.min_eq_left (by omega)] at this
  rw [h1, h2, swapL_comm (by omega)]
  simp only [List.append_assoc, List.cons_append, List.nil_append] at this ⊢
  exact this
theorem symR_at (P R S : List Int) (x : Int) {t : Nat} (ht : t < R.length) : (P ++ (R.take (t + 1) ++ x :: (R.drop (t + 1) ++ S))).getD (P.length + t + 1) 0 = x ∧ (P ++ (R.take (t + 1) ++ x :: (R.drop (t + 1) ++ S))).getD (P.length + t) 0 = R.getD t 0 := by
  have hl : (R.take (t + 1)).length = t + 1 := by rw [List.length_take]; omega
  constructor
  · rw [Nat.add_assoc, getD_pre _ rfl]
    have := getD_mid (R.take (t + 1)) (R.drop (t + 1) ++ S) x
    rwa [hl] at this
  · rw [getD_pre _ rfl, getD_fst _ (by omega), getD_of (by omega), getD_of ht, List.getElem_take]
theorem symR_end {lt : Int → Int → Bool} (ho : LO lt) {L : List Int} {y : Int} (hL : Srt lt L) (hy : ∀ x ∈ L, x < y) {q : Nat} (hq : q ≤ L.length) (h1 : q = 0 ∨ lt y (L.getD (q - 1) 0) = false) (h2 : q = L.length ∨ lt y (L.getD q 0) = true) : Srt lt (L.take q ++ y :: L.drop q) ∧ (L.take q ++ y :: L.drop q).Perm (L ++ [y]) := by
  refine ⟨ins_srt ho (by rw [List.take_append_drop]; exact hL) ?_ ?_, ?_⟩
  · intro z hz
    refine cross ho (A := [y]) (B := L) (List.pairwise_singleton _ _) hL (i := 1) (j := q) (Nat.le_refl _) ?_ y (by simp) z hz
    rcases h2 with h2 | h2
    · exact .inr (.inl h2)
    · exact .inr (.inr h2)
  · intro z hz
    refine cross ho (A := L) (B := [y]) hL (List.pairwise_singleton _ _) (i := q) (j := 0) hq ?_ z hz y (by simp)
    rcases h1 with h1 | h1
    · exact .inl h1
    · rcases Nat.eq_zero_or_pos q with h0 | h0
      · exact .inl h0
      · refine .inr (.inr (ho.of_not ?_ h1))
        have h3 := hy _ (mem_getD (l := L) (k := q - 1) (by omega))
        show y ≠ L.getD (q - 1) 0
        omega
  · refine List.perm_middle.trans ?_
    rw [List.take_append_drop]
    exact List.perm_append_comm (l₁ := [y])
set_option maxRecDepth 16384 in
set_option maxHeartbeats 4000000 in
theorem sym_right {G : World → Prop} {g : Nat} {N : Int} {p1 p2 : Nat} {lt : Int → Int → Bool} (hC : CmpOK G g N p1 p2 lt) (ho : LO lt) (a m b len : Nat) (P L S : List Int) (y : Int) (w : World) (hG : G w) (h : TwoAt g N lt a m b len P L [y] S w) (h2 : L.length ≠ 1) :
    Calls Try.prog 59 #[.slice (some ⟨g, 0, none⟩) len len, .int .i64 (a : Int), .int .i64 (m : Int), .int .i64 (b : Int), cmpV p1 p2] w (RetPerm g lt P (L ++ [y]) S w) := by
  have hbl := h.ble
  have hsm := h.small
  have hmb : m + 1 = b := h.hR
  have ham : a ≤ m := by have := h.hL; omega
  have hxr : ∀ x ∈ L, x < y := fun x hx => h.LR x hx y (by simp)
  have hyN := h.hi y (by simp)
  have hmb2 : m < b := by omega
  have HXR := Lib.hid hxr
  have HT := Lib.hid h
  have HG := Lib.hid hG
  have HC := Lib.hid hC
  have HMB := Lib.hid hmb
  have e0 : (b : Int) - (m : Int) = 1 := by omega
  have e1 : ((m : Int) - (a : Int) == 1) = false := by
    have := h.hL
    simp
    omega
  clear h hG hC hxr hmb h2
  unfold cmpV
  go_enter Try.func59, Try.ntmps59
  go_wp2_with fail
  go_loopw [14, 15] (fun s14 s15 wr => SymInR g a m lt L (P ++ (L ++ ([y] ++ S))) y w s14 s15 wr) (fun s14 s15 _ => (intOf s15).toNat - (intOf s14).toNat)
  case atStart => exact ⟨a, m, rfl, rfl, Nat.le_refl _, ham, Nat.le_refl _, .inl rfl, .inl rfl, HT.out.arr, Outside.refl _ _⟩
  case round =>
    obtain ⟨i, j, rfl, rfl, hmi, hij, hjb, hI, hJ, harr, hout⟩ := hrel
    have HI := Lib.hid hI
    have HJ := Lib.hid hJ
    have HA := Lib.hid harr
    have HO := Lib.hid hout
    clear hI hJ
    by_cases hlt : i < j
    · have hlti : (i : Int) < (j : Int) := by omega
      obtain ⟨h, hh⟩ : ∃ h, (i + j) / 2 = h := ⟨_, rfl⟩
      have eh : ((i : Int) + (j : Int)) / 2 = (h : Int) := by omega
      have hhi : i ≤ h := by omega
      have hhj : h < j := by omega
      have hhl : (h : Int) < (len : Int) := by omega
      have hal : (m : Int) < (len : Int) := by omega
      have ha0 : (0 : Int) ≤ (m : Int) := by omega
      have hh0 : (0 : Int) ≤ (h : Int) := by omega
      obtain ⟨z, hz⟩ : ∃ z, L.getD (h - a) 0 = z := ⟨_, rfl⟩
      have hzm : z ∈ L := by rw [← hz]; exact mem_getD (by have := HT.out.hL; omega)
      have d1 : wr.drew.cell? ⟨g, h, none⟩ = some (.int .i64 z) := by
        rw [← hz]
        exact HT.out.getL (by omega) (by omega) harr
      have d2 : wr.drew.cell? ⟨g, m, none⟩ = some (.int .i64 y) := by
        have := HT.out.getR (i := m) (by omega) (by omega) harr
        simpa using this
      have HGR : Hid (G wr.drew) := Lib.hid (HC.out.keep _ _ HG.out hout.drew)
      have hzy := HXR.out z hzm
      have hz0 := HT.out.lo z hzm
      obtain ⟨lb, hlb⟩ : ∃ lb, lt y z = lb := ⟨_, rfl⟩
      have HLB := Lib.hid hlb
      have HZ := Lib.hid hz
      clear harr hout hlb hh hz hzm
      go_wp2_with fail
      go_region_held3 (fun W' => W'.cell? ⟨g, h, none⟩ = some (.int .i64 z) ∧ W'.cell? ⟨g, m, none⟩ = some (.int .i64 y))
        (first
          | exact ⟨d1, d2⟩
          | exact ⟨k1, k2⟩
          | fail)
        (first
          | (go_simp; go_at_call 53; refine (HC.out.call wr.drew y z HGR.out hz0 hzy hyN).mono ?_; rintro e w5 ⟨r, rfl, hr5, hb5⟩; rw [HLB.out] at hr5; have k1 := (hb5.cell (p := ⟨g, h, none⟩) (World.block_lt_of_cell? _ _ d1)).trans d1; have k2 := (hb5.cell (p := ⟨g, m, none⟩) (World.block_lt_of_cell? _ _ d2)).trans d2; have HB5 := Lib.hid hb5; clear hb5)
          | fail)
      have HA5 : Hid (ArrAt g (P ++ (L ++ ([y] ++ S))) w5) := Lib.hid (HA.out.drew.below HB5.out)
      have HO5 : Hid (Outside (· = g) w w5) := Lib.hid (HO.out.drew.trans (Outside.of_below HB5.out) (fun b _ hb => hb))
      cases lb with
      | false =>
        clear d1 d2
        go_wp2_with fail
        go_roundw
        case rel =>
          refine ⟨h + 1, j, by go_num, rfl, by omega, by omega, hjb, .inr ?_, HJ.out, HA5.out, HO5.out⟩
          rw [show h + 1 - a - 1 = h - a by omega, HZ.out]
          exact HLB.out
        case measure => simp [intOf]; omega
      | true =>
        clear d1 d2
        go_wp2_with fail
        go_roundw
        case rel =>
          refine ⟨i, h, rfl, rfl, hmi, hhi, by omega, HI.out, .inr ?_, HA5.out, HO5.out⟩
          rw [HZ.out]
          exact HLB.out
        case measure => simp [intOf]; omega
    · obtain rfl : i = j := by omega
      have hlti : ¬ (i : Int) < (i : Int) := by omega
      obtain ⟨q, hq⟩ : ∃ q, i = a + q := ⟨i - a, by omega⟩
      have hqR : q ≤ L.length := by have := HT.out.hL; omega
      have HST : Hid (SymSwapR g a q P L S y w (.int .i64 (m : Int)) wr) := Lib.hid ⟨L.length, m, rfl, HT.out.hL, hqR, Nat.le_refl _, by simpa using harr, hout⟩
      have HEND := Lib.hid (symR_end ho HT.out.sL HXR.out hqR (by
        rcases HI.out with h1 | h1
        · exact .inl (by omega)
        · exact .inr (by rwa [show i - a - 1 = q - 1 by omega] at h1)) (by
        rcases HJ.out with h1 | h1
        · exact .inl (by have := HT.out.hL; omega)
        · exact .inr (by rwa [show i - a = q by omega] at h1)))
      clear harr hout HA HO
      go_wp2_with fail
      obtain ⟨wo, hwo⟩ : ∃ wo : World, wo = wr := ⟨_, rfl⟩
      rw [← hwo] at HST ⊢
      clear hwo
      go_loopw [17] (fun s17 wr => SymSwapR g a q P L S y w s17 wr) (fun s17 _ => (intOf s17).toNat)
      case atStart => exact HST.out
      case round =>
        obtain ⟨t1, k, rfl, hk, htq, htl, harr, hout⟩ := hrel
        have HO := Lib.hid hout
        have HK := Lib.hid hk
        by_cases hkq : q < t1
        · obtain ⟨t, rfl⟩ : ∃ t, t1 = t + 1 := ⟨t1 - 1, by omega⟩
          obtain ⟨k, rfl⟩ : ∃ k', k = k' + 1 := ⟨k - 1, by omega⟩
          have hki : (i : Int) < (k : Int) + 1 := by omega
          have HSW := Lib.hid (symR_step P L S y (t := t) (by omega))
          have hat := symR_at P L S y (t := t) (by omega)
          rw [HT.out.hP, show a + t + 1 = k + 1 by omega, show a + t = k by omega] at HSW hat
          have hlen : (P ++ (L.take (t + 1) ++ y :: (L.drop (t + 1) ++ S))).length = len := by
            rw [← HT.out.hlen]
            simp only [List.length_append, List.length_cons, List.length_take, List.length_drop, List.length_nil]
            omega
          have hkl : k + 1 < len := by have := HT.out.hL; omega
          obtain ⟨z, hz⟩ : ∃ z, L.getD t 0 = z := ⟨_, rfl⟩
          rw [hz] at hat
          obtain ⟨ds, hds⟩ : ∃ ds, P ++ (L.take (t + 1) ++ y :: (L.drop (t + 1) ++ S)) = ds := ⟨_, rfl⟩
          rw [hds] at harr hlen HSW hat
          have HA := Lib.hid harr
          have hcb := harr.cell (i := k) (by omega)
          have hca := harr.cell (i := k + 1) (by omega)
          have hfb := harr.frozen k
          have hfa := harr.frozen (k + 1)
          rw [hat.1] at hca
          rw [hat.2] at hcb
          have HAT := Lib.hid hat
          have la : (k : Int) < (len : Int) := by omega
          have lb : (k : Int) + 1 < (len : Int) := by omega
          have ga : (0 : Int) ≤ (k : Int) := by omega
          have gb : (0 : Int) ≤ (k : Int) + 1 := by omega
          have ea : IntKind.i64.wrap (k : Int) = (k : Int) := IntWalk.i64_in _ (by omega)
          have ec : ((k + 1 : Nat) : Int) = (k : Int) + 1 := by omega
          have ed : (k : Int) + 1 - 1 = (k : Int) := by omega
          have tb : ((k : Int) + 1).toNat = k + 1 := by omega
          have hne : (⟨g, k + 1, none⟩ : Addr) ≠ ⟨g, k, none⟩ := by intro e; injection e; omega
          have da : wr.drew.cell? ⟨g, k + 1, none⟩ = _ := hca
          have db : wr.drew.cell? ⟨g, k, none⟩ = _ := hcb
          have fa : wr.drew.frozen? ⟨g, k + 1, none⟩ = false := hfa
          have fb : wr.drew.frozen? ⟨g, k, none⟩ = false := hfb
          clear hds harr hz hout hat hk
          rw [ec]
          go_wp2_with fail
          go_region_law (fail)
          all_goals go_wp2
          all_goals go_roundw
          all_goals first
            | (refine ⟨t, k, rfl, by have := HK.out; omega, by omega, by omega, ?_, out_swap HO.out _ _ _ _⟩
               rw [← HSW.out]
               exact HA.out.drew.swap HAT.out.1 HAT.out.2)
            | (simp [intOf] <;> omega)
        · have hki : ¬ (i : Int) < (k : Int) := by omega
          obtain rfl : t1 = q := by omega
          have HA := Lib.hid harr
          clear harr hout
          go_wp2_with fail
          go_end0
          exact ⟨_, HEND.out.2, HEND.out.1, rfl, by simpa using HA.out, HO.out⟩
end Go.Proofs.Ytbnbeailbhnbdaa
