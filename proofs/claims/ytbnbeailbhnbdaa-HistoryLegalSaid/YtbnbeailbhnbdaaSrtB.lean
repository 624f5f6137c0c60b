/-
  slices' stable sort at numbers: symMerge where one side is a single number.
-/
import Derived.Test.YtbnbeailbhnbdaaSrtA
import Derived.Laws.BitsAllLaws
set_option linter.unusedVariables false
set_option linter.unusedSimpArgs false
namespace Go.Proofs.Ytbnbeailbhnbdaa
open Go.RowKit

/-- What is known where two rows in order stand side by side. -/
structure TwoAt (g : Nat) (N : Int) (lt : Int → Int → Bool) (a m b len : Nat) (P L R S : List Int) (w : World) : Prop where
  arr : ArrAt g (P ++ (L ++ (R ++ S))) w
  hP : P.length = a
  hL : a + L.length = m
  hR : m + R.length = b
  L0 : 0 < L.length
  R0 : 0 < R.length
  sL : Srt lt L
  sR : Srt lt R
  LR : ∀ x ∈ L, ∀ y ∈ R, x < y
  lo : ∀ x ∈ L, 0 ≤ x
  hi : ∀ y ∈ R, y < N
  hlen : (P ++ (L ++ (R ++ S))).length = len
  small : len ≤ 140737488355328
section
variable {G : World → Prop} {g : Nat} {N : Int} {p1 p2 : Nat} {lt : Int → Int → Bool} {a m b len : Nat} {P L R S : List Int} {w : World}
theorem TwoAt.ble (h : TwoAt g N lt a m b len P L R S w) : b ≤ len := by
  have h1 := h.hlen
  have h2 := h.hP
  have h3 := h.hL
  have h4 := h.hR
  rw [← h1]
  simp only [List.length_append]
  omega
theorem TwoAt.getL (h : TwoAt g N lt a m b len P L R S w) {i : Nat} (h1 : a ≤ i) (h2 : i < m) {W : World} (hW : ArrAt g (P ++ (L ++ (R ++ S))) W) : W.cell? ⟨g, i, none⟩ = some (.int .i64 (L.getD (i - a) 0)) := by
  have h3 := h.hP
  have h4 := h.hL
  rw [hW.cell (by rw [h.hlen]; have := h.ble; have := h.hR; omega)]
  rw [show i = a + (i - a) by omega, getD_pre _ h3, getD_fst _ (by omega), show a + (i - a) - a = i - a by omega]
theorem TwoAt.getR (h : TwoAt g N lt a m b len P L R S w) {i : Nat} (h1 : m ≤ i) (h2 : i < b) {W : World} (hW : ArrAt g (P ++ (L ++ (R ++ S))) W) : W.cell? ⟨g, i, none⟩ = some (.int .i64 (R.getD (i - m) 0)) := by
  have h3 := h.hP
  have h4 := h.hL
  have h5 := h.hR
  rw [hW.cell (by rw [h.hlen]; have := h.ble; omega)]
  rw [← List.append_assoc P L]
  rw [show i = m + (i - m) by omega, getD_pre (P := P ++ L) _ (by rw [List.length_append]; omega), getD_fst _ (by omega), show m + (i - m) - m = i - m by omega]
end
theorem mem_getD {l : List Int} {k : Nat} (hk : k < l.length) : l.getD k 0 ∈ l := by
  rw [getD_of hk]
  exact List.getElem_mem hk
def SymIn (g m b : Nat) (lt : Int → Int → Bool) (R ds : List Int) (x : Int) (w : World) (s10 s11 : Value) (wr : World) : Prop :=
  ∃ i j : Nat, s10 = .int .i64 (i : Int) ∧ s11 = .int .i64 (j : Int) ∧ m ≤ i ∧ i ≤ j ∧ j ≤ b ∧ (i = m ∨ lt (R.getD (i - m - 1) 0) x = true) ∧ (j = b ∨ lt (R.getD (j - m) 0) x = false) ∧ ArrAt g ds wr ∧ Outside (· = g) w wr
def SymSwap (g a q : Nat) (P R S : List Int) (x : Int) (w : World) (s13 : Value) (wr : World) : Prop :=
  ∃ t k : Nat, s13 = .int .i64 (k : Int) ∧ a + t = k ∧ t ≤ q ∧ ArrAt g (P ++ (R.take t ++ x :: (R.drop t ++ S))) wr ∧ Outside (· = g) w wr
theorem symL_step (P R S : List Int) (x : Int) {t : Nat} (ht : t < R.length) : swapL (P ++ (R.take t ++ x :: (R.drop t ++ S))) (P.length + t) (P.length + t + 1) = P ++ (R.take (t + 1) ++ x :: (R.drop (t + 1) ++ S)) := by
  have h1 : R.drop t = R[t] :: R.drop (t + 1) := by rw [List.getElem_cons_drop]
  have h2 : R.take (t + 1) = R.take t ++ [R[t]] := by rw [List.take_succ_eq_append_getElem (by omega)]
  have := swap_next (P ++ R.take t) (R.drop (t + 1) ++ S) x R[t]
  rw [List.length_append, List.length_take, Nat.min_eq_left (by omega)] at this
  rw [h1, h2]
  simp only [List.append_assoc, List.cons_append, List.nil_append] at this ⊢
  exact this
theorem symL_at (P R S : List Int) (x : Int) {t : Nat} (ht : t < R.length) : (P ++ (R.take t ++ x :: (R.drop t ++ S))).getD (P.length + t) 0 = x ∧ (P ++ (R.take t ++ x :: (R.drop t ++ S))).getD (P.length + t + 1) 0 = R.getD t 0 := by
  have hl : (R.take t).length = t := by rw [List.length_take]; omega
  have h1 : R.drop t = R[t] :: R.drop (t + 1) := by rw [List.getElem_cons_drop]
  constructor
  · rw [getD_pre _ rfl]
    have := getD_mid (R.take t) (R.drop t ++ S) x
    rwa [hl] at this
  · rw [Nat.add_assoc, getD_pre _ rfl, getD_of ht]
    have := getD_mid (R.take t ++ [x]) (R.drop (t + 1) ++ S) R[t]
    rw [List.length_append, hl, List.append_assoc] at this
    rw [h1]
    exact this
theorem symL_end {lt : Int → Int → Bool} (ho : LO lt) {R : List Int} {x : Int} (hR : Srt lt R) (hx : ∀ y ∈ R, x < y) {q : Nat} (hq : q ≤ R.length) (h1 : q = 0 ∨ lt (R.getD (q - 1) 0) x = true) (h2 : q = R.length ∨ lt (R.getD q 0) x = false) : Srt lt (R.take q ++ x :: R.drop q) ∧ (R.take q ++ x :: R.drop q).Perm ([x] ++ R) := by
  refine ⟨ins_srt ho (by rw [List.take_append_drop]; exact hR) ?_ ?_, ?_⟩
  · intro z hz
    refine cross ho (A := [x]) (B := R) (List.pairwise_singleton _ _) hR (i := 1) (j := q) (Nat.le_refl _) ?_ x (by simp) z hz
    rcases h2 with h2 | h2
    · exact .inr (.inl h2)
    · rcases Nat.lt_or_ge q R.length with hl | hl
      · refine .inr (.inr (ho.of_not ?_ h2))
        have h3 := hx _ (mem_getD hl)
        show R.getD q 0 ≠ x
        omega
      · exact .inr (.inl (by omega))
  · intro z hz
    refine cross ho (A := R) (B := [x]) hR (List.pairwise_singleton _ _) (i := q) (j := 0) hq ?_ z hz x (by simp)
    rcases h1 with h1 | h1
    · exact .inl h1
    · exact .inr (.inr h1)
  · refine List.perm_middle.trans ?_
    rw [List.take_append_drop]
    rfl
set_option maxRecDepth 16384 in
set_option maxHeartbeats 4000000 in
theorem sym_left {G : World → Prop} {g : Nat} {N : Int} {p1 p2 : Nat} {lt : Int → Int → Bool} (hC : CmpOK G g N p1 p2 lt) (ho : LO lt) (a m b len : Nat) (P R S : List Int) (x : Int) (w : World) (hG : G w) (h : TwoAt g N lt a m b len P [x] R S w) :
    Calls Try.prog 59 #[.slice (some ⟨g, 0, none⟩) len len, .int .i64 (a : Int), .int .i64 (m : Int), .int .i64 (b : Int), cmpV p1 p2] w (RetPerm g lt P ([x] ++ R) S w) := by
  have hbl := h.ble
  have hsm := h.small
  have hma : a + 1 = m := h.hL
  have hmb : m ≤ b := by have := h.hR; omega
  have hxr := h.LR x (by simp)
  have hx0 := h.lo x (by simp)
  have HXR := Lib.hid hxr
  have HT := Lib.hid h
  have HG := Lib.hid hG
  have HC := Lib.hid hC
  have e0 : (m : Int) - (a : Int) = 1 := by omega
  have HMA := Lib.hid hma
  have hma2 : a < m := by omega
  clear h hG hC hxr hma
  unfold cmpV
  go_enter Try.func59, Try.ntmps59
  go_wp2_with fail
  go_loopw [10, 11] (fun s10 s11 wr => SymIn g m b lt R (P ++ ([x] ++ (R ++ S))) x w s10 s11 wr) (fun s10 s11 _ => (intOf s11).toNat - (intOf s10).toNat)
  case atStart => exact ⟨m, b, rfl, rfl, Nat.le_refl _, hmb, Nat.le_refl _, .inl rfl, .inl rfl, HT.out.arr, Outside.refl _ _⟩
  case round =>
    obtain ⟨i, j, rfl, rfl, hmi, hij, hjb, hI, hJ, harr, hout⟩ := hrel
    have HI := Lib.hid hI
    have HJ := Lib.hid hJ
    have HA := Lib.hid harr
    have HO := Lib.hid hout
    clear hI hJ
    by_cases hlt : i < j
    · have hlti : (i : Int) < (j : Int) := by omega
      obtain ⟨h, hh⟩ : ∃ h, (i + j) / 2 = h := ⟨_, rfl⟩
      have eh : ((i : Int) + (j : Int)) / 2 = (h : Int) := by omega
      have hhi : i ≤ h := by omega
      have hhj : h < j := by omega
      have hhl : (h : Int) < (len : Int) := by omega
      have hal : (a : Int) < (len : Int) := by omega
      have ha0 : (0 : Int) ≤ (a : Int) := by omega
      have hh0 : (0 : Int) ≤ (h : Int) := by omega
      obtain ⟨y, hy⟩ : ∃ y, R.getD (h - m) 0 = y := ⟨_, rfl⟩
      have hym : y ∈ R := by rw [← hy]; exact mem_getD (by have := HT.out.hR; omega)
      have d1 : wr.drew.cell? ⟨g, h, none⟩ = some (.int .i64 y) := by
        rw [← hy]
        exact HT.out.getR (by omega) (by omega) harr
      have d2 : wr.drew.cell? ⟨g, a, none⟩ = some (.int .i64 x) := by
        have := HT.out.getL (i := a) (by omega) (by omega) harr
        simpa using this
      have HGR : Hid (G wr.drew) := Lib.hid (HC.out.keep _ _ HG.out hout.drew)
      have hyx := HXR.out y hym
      have hyN := HT.out.hi y hym
      obtain ⟨lb, hlb⟩ : ∃ lb, lt y x = lb := ⟨_, rfl⟩
      have HLB := Lib.hid hlb
      have HY := Lib.hid hy
      clear harr hout hlb hh hy hym
      go_wp2_with fail
      go_region_held3 (fun W' => W'.cell? ⟨g, h, none⟩ = some (.int .i64 y) ∧ W'.cell? ⟨g, a, none⟩ = some (.int .i64 x))
        (first
          | exact ⟨d1, d2⟩
          | exact ⟨k1, k2⟩
          | fail)
        (first
          | (go_simp; go_at_call 53; refine (HC.out.call wr.drew y x HGR.out hx0 hyx hyN).mono ?_; rintro e w5 ⟨r, rfl, hr5, hb5⟩; rw [HLB.out] at hr5; have k1 := (hb5.cell (p := ⟨g, h, none⟩) (World.block_lt_of_cell? _ _ d1)).trans d1; have k2 := (hb5.cell (p := ⟨g, a, none⟩) (World.block_lt_of_cell? _ _ d2)).trans d2; have HB5 := Lib.hid hb5; clear hb5)
          | fail)
      have HA5 : Hid (ArrAt g (P ++ ([x] ++ (R ++ S))) w5) := Lib.hid (HA.out.drew.below HB5.out)
      have HO5 : Hid (Outside (· = g) w w5) := Lib.hid (HO.out.drew.trans (Outside.of_below HB5.out) (fun b _ hb => hb))
      cases lb with
      | true =>
        clear d1 d2
        go_wp2_with fail
        go_roundw
        case rel =>
          refine ⟨h + 1, j, by go_num, rfl, by omega, by omega, hjb, .inr ?_, HJ.out, HA5.out, HO5.out⟩
          rw [show h + 1 - m - 1 = h - m by omega, HY.out]
          exact HLB.out
        case measure => simp [intOf]; omega
      | false =>
        clear d1 d2
        go_wp2_with fail
        go_roundw
        case rel =>
          refine ⟨i, h, rfl, rfl, hmi, hhi, by omega, HI.out, .inr ?_, HA5.out, HO5.out⟩
          rw [HY.out]
          exact HLB.out
        case measure => simp [intOf]; omega
    · obtain rfl : i = j := by omega
      have hlti : ¬ (i : Int) < (i : Int) := by omega
      obtain ⟨q, hq⟩ : ∃ q, i = m + q := ⟨i - m, by omega⟩
      have hqR : q ≤ R.length := by have := HT.out.hR; omega
      have HST : Hid (SymSwap g a q P R S x w (.int .i64 (a : Int)) wr) := Lib.hid ⟨0, a, rfl, rfl, Nat.zero_le _, by simpa using harr, hout⟩
      have HEND := Lib.hid (symL_end ho HT.out.sR HXR.out hqR (by
        rcases HI.out with h1 | h1
        · exact .inl (by omega)
        · exact .inr (by rwa [show i - m - 1 = q - 1 by omega] at h1)) (by
        rcases HJ.out with h1 | h1
        · exact .inl (by have := HT.out.hR; omega)
        · exact .inr (by rwa [show i - m = q by omega] at h1)))
      have ei : IntKind.i64.wrap ((i : Int) - 1) = (i : Int) - 1 := IntWalk.i64_in _ (by omega)
      clear harr hout HA HO
      go_wp2_with fail
      obtain ⟨wo, hwo⟩ : ∃ wo : World, wo = wr := ⟨_, rfl⟩
      rw [← hwo] at HST ⊢
      clear hwo
      go_loopw [13] (fun s13 wr => SymSwap g a q P R S x w s13 wr) (fun s13 _ => i - (intOf s13).toNat)
      case atStart => exact HST.out
      case round =>
        obtain ⟨t, k, rfl, hk, htq, harr, hout⟩ := hrel
        have HO := Lib.hid hout
        have HK := Lib.hid hk
        by_cases hkq : t < q
        · have hki : (k : Int) < (i : Int) - 1 := by omega
          have HSW := Lib.hid (symL_step P R S x (t := t) (by omega))
          have hat := symL_at P R S x (t := t) (by omega)
          rw [HT.out.hP, hk] at HSW hat
          have hlen : (P ++ (R.take t ++ x :: (R.drop t ++ S))).length = len := by
            rw [← HT.out.hlen]
            simp only [List.length_append, List.length_cons, List.length_take, List.length_drop, List.length_nil]
            omega
          obtain ⟨y, hy⟩ : ∃ y, R.getD t 0 = y := ⟨_, rfl⟩
          rw [hy] at hat
          obtain ⟨ds, hds⟩ : ∃ ds, P ++ (R.take t ++ x :: (R.drop t ++ S)) = ds := ⟨_, rfl⟩
          rw [hds] at harr hlen HSW hat
          have HA := Lib.hid harr
          have hca := harr.cell (i := k) (by omega)
          have hcb := harr.cell (i := k + 1) (by omega)
          have hfa := harr.frozen k
          have hfb := harr.frozen (k + 1)
          rw [hat.1] at hca
          rw [hat.2] at hcb
          have HAT := Lib.hid hat
          have ea : IntKind.i64.wrap ((k : Int) + 1) = (k : Int) + 1 := IntWalk.i64_in _ (by omega)
          have la : (k : Int) < (len : Int) := by omega
          have lb : (k : Int) + 1 < (len : Int) := by omega
          have ga : (0 : Int) ≤ (k : Int) := by omega
          have gb : (0 : Int) ≤ (k : Int) + 1 := by omega
          have tb : ((k : Int) + 1).toNat = k + 1 := by omega
          have hne : (⟨g, k, none⟩ : Addr) ≠ ⟨g, k + 1, none⟩ := by intro e; injection e; omega
          have da : wr.drew.cell? ⟨g, k, none⟩ = _ := hca
          have db : wr.drew.cell? ⟨g, k + 1, none⟩ = _ := hcb
          have fa : wr.drew.frozen? ⟨g, k, none⟩ = false := hfa
          have fb : wr.drew.frozen? ⟨g, k + 1, none⟩ = false := hfb
          clear hds harr hy hout hat hk
          go_wp2_with fail
          go_region_law (fail)
          all_goals go_wp2
          all_goals go_roundw
          all_goals first
            | (refine ⟨t + 1, k + 1, by go_num, by have := HK.out; omega, by omega, ?_, out_swap HO.out _ _ _ _⟩
               rw [← HSW.out]
               exact HA.out.drew.swap HAT.out.1 HAT.out.2)
            | (simp [intOf]; omega)
        · have hki : ¬ (k : Int) < (i : Int) - 1 := by omega
          obtain rfl : t = q := by omega
          have HA := Lib.hid harr
          clear harr hout
          go_wp2_with fail
          go_end0
          exact ⟨_, HEND.out.2, HEND.out.1, rfl, by simpa using HA.out, HO.out⟩
end Go.Proofs.Ytbnbeailbhnbdaa
/-
  slices' stable sort at numbers: symMerge where the right side is a single number.
-/
set_option linter.unusedVariables false
set_option linter.unusedSimpArgs false
namespace Go.Proofs.Ytbnbeailbhnbdaa
open Go.RowKit

def SymInR (g a m : Nat) (lt : Int → Int → Bool) (L ds : List Int) (y : Int) (w : World) (s14 s15 : Value) (wr : World) : Prop :=
  ∃ i j : Nat, s14 = .int .i64 (i : Int) ∧ s15 = .int .i64 (j : Int) ∧ a ≤ i ∧ i ≤ j ∧ j ≤ m ∧ (i = a ∨ lt y (L.getD (i - a - 1) 0) = false) ∧ (j = m ∨ lt y (L.getD (j - a) 0) = true) ∧ ArrAt g ds wr ∧ Outside (· = g) w wr
def SymSwapR (g a q : Nat) (P L S : List Int) (y : Int) (w : World) (s17 : Value) (wr : World) : Prop :=
  ∃ t k : Nat, s17 = .int .i64 (k : Int) ∧ a + t = k ∧ q ≤ t ∧ t ≤ L.length ∧ ArrAt g (P ++ (L.take t ++ y :: (L.drop t ++ S))) wr ∧ Outside (· = g) w wr
theorem symR_step (P R S : List Int) (x : Int) {t : Nat} (ht : t < R.length) : swapL (P ++ (R.take (t + 1) ++ x :: (R.drop (t + 1) ++ S))) (P.length + t + 1) (P.length + t) = P ++ (R.take t ++ x :: (R.drop t ++ S)) := by
  have h1 : R.drop t = R[t] :: R.drop (t + 1) := by rw [List.getElem_cons_drop]
  have h2 : R.take (t + 1) = R.take t ++ [R[t]] := by rw [List.take_succ_eq_append_getElem (by omega)]
  have := swap_next (P ++ R.take t) (R.drop (t + 1) ++ S) R[t] x
  rw [List.length_append, List.length_take, Nat.min_eq_left (by omega)] at this
  rw [h1, h2, swapL_comm (by omega)]
  simp only [List.append_assoc, List.cons_append, List.nil_append] at this ⊢
  exact this
theorem symR_at (P R S : List Int) (x : Int) {t : Nat} (ht : t < R.length) : (P ++ (R.take (t + 1) ++ x :: (R.drop (t + 1) ++ S))).getD (P.length + t + 1) 0 = x ∧ (P ++ (R.take (t + 1) ++ x :: (R.drop (t + 1) ++ S))).getD (P.length + t) 0 = R.getD t 0 := by
  have hl : (R.take (t + 1)).length = t + 1 := by rw [List.length_take]; omega
  constructor
  · rw [Nat.add_assoc, getD_pre _ rfl]
    have := getD_mid (R.take (t + 1)) (R.drop (t + 1) ++ S) x
    rwa [hl] at this
  · rw [getD_pre _ rfl, getD_fst _ (by omega), getD_of (by omega), getD_of ht, List.getElem_take]
theorem symR_end {lt : Int → Int → Bool} (ho : LO lt) {L : List Int} {y : Int} (hL : Srt lt L) (hy : ∀ x ∈ L, x < y) {q : Nat} (hq : q ≤ L.length) (h1 : q = 0 ∨ lt y (L.getD (q - 1) 0) = false) (h2 : q = L.length ∨ lt y (L.getD q 0) = true) : Srt lt (L.take q ++ y :: L.drop q) ∧ (L.take q ++ y :: L.drop q).Perm (L ++ [y]) := by
  refine ⟨ins_srt ho (by rw [List.take_append_drop]; exact hL) ?_ ?_, ?_⟩
  · intro z hz
    refine cross ho (A := [y]) (B := L) (List.pairwise_singleton _ _) hL (i := 1) (j := q) (Nat.le_refl _) ?_ y (by simp) z hz
    rcases h2 with h2 | h2
    · exact .inr (.inl h2)
    · exact .inr (.inr h2)
  · intro z hz
    refine cross ho (A := L) (B := [y]) hL (List.pairwise_singleton _ _) (i := q) (j := 0) hq ?_ z hz y (by simp)
    rcases h1 with h1 | h1
    · exact .inl h1
    · rcases Nat.eq_zero_or_pos q with h0 | h0
      · exact .inl h0
      · refine .inr (.inr (ho.of_not ?_ h1))
        have h3 := hy _ (mem_getD (l := L) (k := q - 1) (by omega))
        show y ≠ L.getD (q - 1) 0
        omega
  · refine List.perm_middle.trans ?_
    rw [List.take_append_drop]
    exact List.perm_append_comm (l₁ := [y])
set_option maxRecDepth 16384 in
set_option maxHeartbeats 4000000 in
theorem sym_right {G : World → Prop} {g : Nat} {N : Int} {p1 p2 : Nat} {lt : Int → Int → Bool} (hC : CmpOK G g N p1 p2 lt) (ho : LO lt) (a m b len : Nat) (P L S : List Int) (y : Int) (w : World) (hG : G w) (h : TwoAt g N lt a m b len P L [y] S w) (h2 : L.length ≠ 1) :
    Calls Try.prog 59 #[.slice (some ⟨g, 0, none⟩) len len, .int .i64 (a : Int), .int .i64 (m : Int), .int .i64 (b : Int), cmpV p1 p2] w (RetPerm g lt P (L ++ [y]) S w) := by
  have hbl := h.ble
  have hsm := h.small
  have hmb : m + 1 = b := h.hR
  have ham : a ≤ m := by have := h.hL; omega
  have hxr : ∀ x ∈ L, x < y := fun x hx => h.LR x hx y (by simp)
  have hyN := h.hi y (by simp)
  have hmb2 : m < b := by omega
  have HXR := Lib.hid hxr
  have HT := Lib.hid h
  have HG := Lib.hid hG
  have HC := Lib.hid hC
  have HMB := Lib.hid hmb
  have e0 : (b : Int) - (m : Int) = 1 := by omega
  have e1 : ((m : Int) - (a : Int) == 1) = false := by
    have := h.hL
    simp
    omega
  clear h hG hC hxr hmb h2
  unfold cmpV
  go_enter Try.func59, Try.ntmps59
  go_wp2_with fail
  go_loopw [14, 15] (fun s14 s15 wr => SymInR g a m lt L (P ++ (L ++ ([y] ++ S))) y w s14 s15 wr) (fun s14 s15 _ => (intOf s15).toNat - (intOf s14).toNat)
  case atStart => exact ⟨a, m, rfl, rfl, Nat.le_refl _, ham, Nat.le_refl _, .inl rfl, .inl rfl, HT.out.arr, Outside.refl _ _⟩
  case round =>
    obtain ⟨i, j, rfl, rfl, hmi, hij, hjb, hI, hJ, harr, hout⟩ := hrel
    have HI := Lib.hid hI
    have HJ := Lib.hid hJ
    have HA := Lib.hid harr
    have HO := Lib.hid hout
    clear hI hJ
    by_cases hlt : i < j
    · have hlti : (i : Int) < (j : Int) := by omega
      obtain ⟨h, hh⟩ : ∃ h, (i + j) / 2 = h := ⟨_, rfl⟩
      have eh : ((i : Int) + (j : Int)) / 2 = (h : Int) := by omega
      have hhi : i ≤ h := by omega
      have hhj : h < j := by omega
      have hhl : (h : Int) < (len : Int) := by omega
      have hal : (m : Int) < (len : Int) := by omega
      have ha0 : (0 : Int) ≤ (m : Int) := by omega
      have hh0 : (0 : Int) ≤ (h : Int) := by omega
      obtain ⟨z, hz⟩ : ∃ z, L.getD (h - a) 0 = z := ⟨_, rfl⟩
      have hzm : z ∈ L := by rw [← hz]; exact mem_getD (by have := HT.out.hL; omega)
      have d1 : wr.drew.cell? ⟨g, h, none⟩ = some (.int .i64 z) := by
        rw [← hz]
        exact HT.out.getL (by omega) (by omega) harr
      have d2 : wr.drew.cell? ⟨g, m, none⟩ = some (.int .i64 y) := by
        have := HT.out.getR (i := m) (by omega) (by omega) harr
        simpa using this
      have HGR : Hid (G wr.drew) := Lib.hid (HC.out.keep _ _ HG.out hout.drew)
      have hzy := HXR.out z hzm
      have hz0 := HT.out.lo z hzm
      obtain ⟨lb, hlb⟩ : ∃ lb, lt y z = lb := ⟨_, rfl⟩
      have HLB := Lib.hid hlb
      have HZ := Lib.hid hz
      clear harr hout hlb hh hz hzm
      go_wp2_with fail
      go_region_held3 (fun W' => W'.cell? ⟨g, h, none⟩ = some (.int .i64 z) ∧ W'.cell? ⟨g, m, none⟩ = some (.int .i64 y))
        (first
          | exact ⟨d1, d2⟩
          | exact ⟨k1, k2⟩
          | fail)
        (first
          | (go_simp; go_at_call 53; refine (HC.out.call wr.drew y z HGR.out hz0 hzy hyN).mono ?_; rintro e w5 ⟨r, rfl, hr5, hb5⟩; rw [HLB.out] at hr5; have k1 := (hb5.cell (p := ⟨g, h, none⟩) (World.block_lt_of_cell? _ _ d1)).trans d1; have k2 := (hb5.cell (p := ⟨g, m, none⟩) (World.block_lt_of_cell? _ _ d2)).trans d2; have HB5 := Lib.hid hb5; clear hb5)
          | fail)
      have HA5 : Hid (ArrAt g (P ++ (L ++ ([y] ++ S))) w5) := Lib.hid (HA.out.drew.below HB5.out)
      have HO5 : Hid (Outside (· = g) w w5) := Lib.hid (HO.out.drew.trans (Outside.of_below HB5.out) (fun b _ hb => hb))
      cases lb with
      | false =>
        clear d1 d2
        go_wp2_with fail
        go_roundw
        case rel =>
          refine ⟨h + 1, j, by go_num, rfl, by omega, by omega, hjb, .inr ?_, HJ.out, HA5.out, HO5.out⟩
          rw [show h + 1 - a - 1 = h - a by omega, HZ.out]
          exact HLB.out
        case measure => simp [intOf]; omega
      | true =>
        clear d1 d2
        go_wp2_with fail
        go_roundw
        case rel =>
          refine ⟨i, h, rfl, rfl, hmi, hhi, by omega, HI.out, .inr ?_, HA5.out, HO5.out⟩
          rw [HZ.out]
          exact HLB.out
        case measure => simp [intOf]; omega
    · obtain rfl : i = j := by omega
      have hlti : ¬ (i : Int) < (i : Int) := by omega
      obtain ⟨q, hq⟩ : ∃ q, i = a + q := ⟨i - a, by omega⟩
      have hqR : q ≤ L.length := by have := HT.out.hL; omega
      have HST : Hid (SymSwapR g a q P L S y w (.int .i64 (m : Int)) wr) := Lib.hid ⟨L.length, m, rfl, HT.out.hL, hqR, Nat.le_refl _, by simpa using harr, hout⟩
      have HEND := Lib.hid (symR_end ho HT.out.sL HXR.out hqR (by
        rcases HI.out with h1 | h1
        · exact .inl (by omega)
        · exact .inr (by rwa [show i - a - 1 = q - 1 by omega] at h1)) (by
        rcases HJ.out with h1 | h1
        · exact .inl (by have := HT.out.hL; omega)
        · exact .inr (by rwa [show i - a = q by omega] at h1)))
      clear harr hout HA HO
      go_wp2_with fail
      obtain ⟨wo, hwo⟩ : ∃ wo : World, wo = wr := ⟨_, rfl⟩
      rw [← hwo] at HST ⊢
      clear hwo
      go_loopw [17] (fun s17 wr => SymSwapR g a q P L S y w s17 wr) (fun s17 _ => (intOf s17).toNat)
      case atStart => exact HST.out
      case round =>
        obtain ⟨t1, k, rfl, hk, htq, htl, harr, hout⟩ := hrel
        have HO := Lib.hid hout
        have HK := Lib.hid hk
        by_cases hkq : q < t1
        · obtain ⟨t, rfl⟩ : ∃ t, t1 = t + 1 := ⟨t1 - 1, by omega⟩
          obtain ⟨k, rfl⟩ : ∃ k', k = k' + 1 := ⟨k - 1, by omega⟩
          have hki : (i : Int) < (k : Int) + 1 := by omega
          have HSW := Lib.hid (symR_step P L S y (t := t) (by omega))
          have hat := symR_at P L S y (t := t) (by omega)
          rw [HT.out.hP, show a + t + 1 = k + 1 by omega, show a + t = k by omega] at HSW hat
          have hlen : (P ++ (L.take (t + 1) ++ y :: (L.drop (t + 1) ++ S))).length = len := by
            rw [← HT.out.hlen]
            simp only [List.length_append, List.length_cons, List.length_take, List.length_drop, List.length_nil]
            omega
          have hkl : k + 1 < len := by have := HT.out.hL; omega
          obtain ⟨z, hz⟩ : ∃ z, L.getD t 0 = z := ⟨_, rfl⟩
          rw [hz] at hat
          obtain ⟨ds, hds⟩ : ∃ ds, P ++ (L.take (t + 1) ++ y :: (L.drop (t + 1) ++ S)) = ds := ⟨_, rfl⟩
          rw [hds] at harr hlen HSW hat
          have HA := Lib.hid harr
          have hcb := harr.cell (i := k) (by omega)
          have hca := harr.cell (i := k + 1) (by omega)
          have hfb := harr.frozen k
          have hfa := harr.frozen (k + 1)
          rw [hat.1] at hca
          rw [hat.2] at hcb
          have HAT := Lib.hid hat
          have la : (k : Int) < (len : Int) := by omega
          have lb : (k : Int) + 1 < (len : Int) := by omega
          have ga : (0 : Int) ≤ (k : Int) := by omega
          have gb : (0 : Int) ≤ (k : Int) + 1 := by omega
          have ea : IntKind.i64.wrap (k : Int) = (k : Int) := IntWalk.i64_in _ (by omega)
          have ec : ((k + 1 : Nat) : Int) = (k : Int) + 1 := by omega
          have ed : (k : Int) + 1 - 1 = (k : Int) := by omega
          have tb : ((k : Int) + 1).toNat = k + 1 := by omega
          have hne : (⟨g, k + 1, none⟩ : Addr) ≠ ⟨g, k, none⟩ := by intro e; injection e; omega
          have da : wr.drew.cell? ⟨g, k + 1, none⟩ = _ := hca
          have db : wr.drew.cell? ⟨g, k, none⟩ = _ := hcb
          have fa : wr.drew.frozen? ⟨g, k + 1, none⟩ = false := hfa
          have fb : wr.drew.frozen? ⟨g, k, none⟩ = false := hfb
          clear hds harr hz hout hat hk
          rw [ec]
          go_wp2_with fail
          go_region_law (fail)
          all_goals go_wp2
          all_goals go_roundw
          all_goals first
            | (refine ⟨t, k, rfl, by have := HK.out; omega, by omega, by omega, ?_, out_swap HO.out _ _ _ _⟩
               rw [← HSW.out]
               exact HA.out.drew.swap HAT.out.1 HAT.out.2)
            | (simp [intOf] <;> omega)
        · have hki : ¬ (i : Int) < (k : Int) := by omega
          obtain rfl : t1 = q := by omega
          have HA := Lib.hid harr
          clear harr hout
          go_wp2_with fail
          go_end0
          exact ⟨_, HEND.out.2, HEND.out.1, rfl, by simpa using HA.out, HO.out⟩
end Go.Proofs.Ytbnbeailbhnbdaa
/-
  slices' stable sort at numbers: symMerge, the cut in two.
-/
set_option linter.unusedVariables false
set_option linter.unusedSimpArgs false
namespace Go.Proofs.Ytbnbeailbhnbdaa
open Go.RowKit

/-- Where a merge is cut: s numbers of the left, e of the right ahead. -/
structure CutAt (lt : Int → Int → Bool) (a m b mid s e : Nat) (L R : List Int) : Prop where
  hs : a ≤ s
  hsm : s ≤ m
  hme : m ≤ e
  heb : e ≤ b
  hsum : s + e = mid + m
  LR : ∀ x ∈ L.take (s - a), ∀ y ∈ R.drop (e - m), lt x y = true
  RL : ∀ x ∈ R.take (e - m), ∀ y ∈ L.drop (s - a), lt x y = true
theorem srt_one {lt : Int → Int → Bool} {X Y : List Int} (hX : Srt lt X) (hY : Srt lt Y) (h : X = [] ∨ Y = []) : Srt lt (X ++ Y) := by
  rcases h with rfl | rfl
  · exact hY
  · rw [List.append_nil]; exact hX
theorem cut_of {lt : Int → Int → Bool} (ho : LO lt) {a m b mid nn s0 r0 p s e : Nat} {L R : List Int} (hL : a + L.length = m) (hR : m + R.length = b) (sL : Srt lt L) (sR : Srt lt R) (hx : ∀ x ∈ L, ∀ y ∈ R, x < y)
    (hnn : mid + m = nn) (hp : p + 1 = nn) (h1 : s0 ≤ s) (h2 : s ≤ r0) (k1 : a ≤ s0) (k2 : r0 ≤ m) (k3 : r0 ≤ mid) (k4 : nn ≤ s0 + b) (k5 : s0 = a ∨ s0 + b = nn) (k6 : r0 = mid ∨ r0 = m) (he : s + e = nn)
    (i1 : s = s0 ∨ lt (R.getD (p - (s - 1) - m) 0) (L.getD (s - 1 - a) 0) = false) (i2 : s = r0 ∨ lt (R.getD (p - s - m) 0) (L.getD (s - a) 0) = true) : CutAt lt a m b mid s e L R where
  hs := by omega
  hsm := by omega
  hme := by omega
  heb := by omega
  hsum := by omega
  LR := by
    refine cross ho sL sR (by omega) ?_
    rcases Nat.lt_or_ge a s with ha | ha
    · rcases Nat.lt_or_ge e b with hb | hb
      · rcases i1 with i1 | i1
        · omega
        · rw [show p - (s - 1) - m = e - m by omega, show s - 1 - a = s - a - 1 by omega] at i1
          refine .inr (.inr (ho.of_not ?_ i1))
          have := hx _ (mem_getD (l := L) (k := s - a - 1) (by omega)) _ (mem_getD (l := R) (k := e - m) (by omega))
          omega
      · exact .inr (.inl (by omega))
    · exact .inl (by omega)
  RL := by
    refine cross ho sR sL (by omega) ?_
    rcases i2 with i2 | i2
    · rcases k6 with k6 | k6
      · exact .inl (by omega)
      · exact .inr (.inl (by omega))
    · rcases Nat.eq_zero_or_pos (e - m) with h0 | h0
      · exact .inl h0
      · rw [show p - s - m = e - m - 1 by omega] at i2
        exact .inr (.inr i2)
/-- The two parts stand as the cut says. -/
def Parts1 (g : Nat) (P L R S : List Int) (i j : Nat) (w W : World) : Prop := ArrAt g (P ++ (L.take i ++ (R.take j ++ (L.drop i ++ (R.drop j ++ S))))) W ∧ Outside (· = g) w W
/-- The first part is in order. -/
def Parts2 (g : Nat) (lt : Int → Int → Bool) (P L R S : List Int) (i j : Nat) (w W : World) : Prop := ∃ M1, M1.Perm (L.take i ++ R.take j) ∧ Srt lt M1 ∧ ArrAt g (P ++ (M1 ++ (L.drop i ++ (R.drop j ++ S)))) W ∧ Outside (· = g) w W
def SymOf (G : World → Prop) (g : Nat) (N : Int) (p1 p2 : Nat) (lt : Int → Int → Bool) (len d : Nat) : Prop :=
  ∀ a m b P L R S W, b - a < d → G W → TwoAt g N lt a m b len P L R S W → Calls Try.prog 59 #[.slice (some ⟨g, 0, none⟩) len len, .int .i64 (a : Int), .int .i64 (m : Int), .int .i64 (b : Int), cmpV p1 p2] W (RetPerm g lt P (L ++ R) S W)
section
variable {G : World → Prop} {g : Nat} {N : Int} {p1 p2 : Nat} {lt : Int → Int → Bool} {a m b mid s e len : Nat} {P L R S : List Int} {w W : World} {fv : Value}
theorem parts_rot (h : TwoAt g N lt a m b len P L R S w) (hc : CutAt lt a m b mid s e L R) (h1 : s < m) (h2 : m < e) (hW : ArrAt g (P ++ (L ++ (R ++ S))) W) (hO : Outside (· = g) w W) :
    Calls Try.prog 60 #[.slice (some ⟨g, 0, none⟩) len len, .int .i64 (s : Int), .int .i64 (m : Int), .int .i64 (e : Int), fv] W (fun e' W' => e' = .returned (.tuple #[]) ∧ Parts1 g P L R S (s - a) (e - m) w W') := by
  have a1 := h.hP
  have a2 := h.hL
  have a3 := h.hR
  have a4 := hc.hs
  have a5 := hc.heb
  have hL := List.take_append_drop (s - a) L
  have hR := List.take_append_drop (e - m) R
  have hl := h.hlen
  have heq : P ++ (L ++ (R ++ S)) = (P ++ L.take (s - a)) ++ (L.drop (s - a) ++ (R.take (e - m) ++ (R.drop (e - m) ++ S))) := by
    rw [List.append_assoc, ← List.append_assoc (L.take _), hL, ← List.append_assoc (R.take _), hR]
  refine (rotate_any g s m e len (P ++ L.take (s - a)) (L.drop (s - a)) (R.take (e - m)) (R.drop (e - m) ++ S) fv W (by rw [← heq]; exact hW) ?_ ?_ ?_ ?_ ?_ (by rw [← heq]; exact hl) h.small).mono ?_
  · rw [List.length_append, List.length_take]; omega
  · rw [List.length_drop]; omega
  · rw [List.length_take]; omega
  · rw [List.length_drop]; omega
  · rw [List.length_take]; omega
  · rintro e' W' ⟨rfl, h1, h2⟩
    exact ⟨rfl, by simpa only [List.append_assoc] using h1, hO.trans h2 (fun b _ hb => hb)⟩
theorem parts_still (h : TwoAt g N lt a m b len P L R S w) (hc : CutAt lt a m b mid s e L R) (h1 : ¬ (s < m ∧ m < e)) (hW : ArrAt g (P ++ (L ++ (R ++ S))) W) (hO : Outside (· = g) w W) : Parts1 g P L R S (s - a) (e - m) w W := by
  refine ⟨?_, hO⟩
  have a2 := h.hL
  have a4 := hc.hsm
  have a5 := hc.hme
  have hL := List.take_append_drop (s - a) L
  have hR := List.take_append_drop (e - m) R
  rcases Nat.lt_or_ge s m with h2 | h2
  · have h3 : e - m = 0 := by omega
    rw [h3]
    rw [List.take_zero, List.nil_append, List.drop_zero, ← List.append_assoc (L.take _), hL]
    exact hW
  · have h3 : L.drop (s - a) = [] := List.drop_of_length_le (by omega)
    rw [h3] at hL ⊢
    rw [List.append_nil] at hL
    rw [hL, List.nil_append, ← List.append_assoc (R.take _), hR]
    exact hW
theorem parts1_len (h : TwoAt g N lt a m b len P L R S w) (i j : Nat) : (P ++ (L.take i ++ (R.take j ++ (L.drop i ++ (R.drop j ++ S))))).length = len := by
  rw [← h.hlen]
  simp only [List.length_append, List.length_take, List.length_drop]
  omega
theorem parts_one (hK : CmpOK G g N p1 p2 lt) (hS : SymOf G g N p1 p2 lt len (b - a)) (hGw : G w) (h : TwoAt g N lt a m b len P L R S w) (hc : CutAt lt a m b mid s e L R) (hmid : mid < b) (h1 : a < s) (h2 : s < mid) (hW : Parts1 g P L R S (s - a) (e - m) w W) :
    Calls Try.prog 59 #[.slice (some ⟨g, 0, none⟩) len len, .int .i64 (a : Int), .int .i64 (s : Int), .int .i64 (mid : Int), cmpV p1 p2] W (fun e' W' => e' = .returned (.tuple #[]) ∧ Parts2 g lt P L R S (s - a) (e - m) w W') := by
  have a1 := h.hP
  have a2 := h.hL
  have a3 := h.hR
  have a4 := hc.hsum
  have a5 := hc.heb
  have a6 := hc.hsm
  have hT : TwoAt g N lt a s mid len P (L.take (s - a)) (R.take (e - m)) (L.drop (s - a) ++ (R.drop (e - m) ++ S)) W := by
    refine ⟨hW.1, h.hP, ?_, ?_, ?_, ?_, h.sL.sublist (List.take_sublist _ _), h.sR.sublist (List.take_sublist _ _), fun x hx y hy => h.LR x (List.mem_of_mem_take hx) y (List.mem_of_mem_take hy), fun x hx => h.lo x (List.mem_of_mem_take hx), fun y hy => h.hi y (List.mem_of_mem_take hy), parts1_len h _ _, h.small⟩
    all_goals rw [List.length_take]; omega
  refine (hS a s mid _ _ _ _ W (by omega) (hK.keep _ _ hGw hW.2) hT).mono ?_
  rintro e' W' ⟨M, p, q, rfl, h5, h6⟩
  exact ⟨rfl, M, p, q, h5, hW.2.trans h6 (fun b _ hb => hb)⟩
theorem parts_none1 (h : TwoAt g N lt a m b len P L R S w) (hc : CutAt lt a m b mid s e L R) (h1 : ¬ (a < s ∧ s < mid)) (hW : Parts1 g P L R S (s - a) (e - m) w W) : Parts2 g lt P L R S (s - a) (e - m) w W := by
  refine ⟨_, List.Perm.refl _, srt_one (h.sL.sublist (List.take_sublist _ _)) (h.sR.sublist (List.take_sublist _ _)) ?_, by rw [List.append_assoc]; exact hW.1, hW.2⟩
  have a4 := hc.hsum
  have a6 := hc.hs
  have a7 := hc.hme
  rcases Nat.lt_or_ge a s with h2 | h2
  · exact .inr (by rw [show e - m = 0 by omega, List.take_zero])
  · exact .inl (by rw [show s - a = 0 by omega, List.take_zero])
theorem parts_two (hK : CmpOK G g N p1 p2 lt) (hS : SymOf G g N p1 p2 lt len (b - a)) (hGw : G w) (h : TwoAt g N lt a m b len P L R S w) (hc : CutAt lt a m b mid s e L R) (hmid : a < mid) (hmb : mid < b) (h1 : mid < e) (h2 : e < b) (hW : Parts2 g lt P L R S (s - a) (e - m) w W) :
    Calls Try.prog 59 #[.slice (some ⟨g, 0, none⟩) len len, .int .i64 (mid : Int), .int .i64 (e : Int), .int .i64 (b : Int), cmpV p1 p2] W (RetPerm g lt P (L ++ R) S w) := by
  have a1 := h.hP
  have a2 := h.hL
  have a3 := h.hR
  have a4 := hc.hsum
  have a5 := hc.hme
  have a6 := hc.hs
  have a7 := hc.hsm
  obtain ⟨M1, p, q, hA, hO⟩ := hW
  have hM1 : M1.length = (s - a) + (e - m) := by rw [p.length_eq, List.length_append, List.length_take, List.length_take]; omega
  have hl := parts1_len h (s - a) (e - m)
  have hT : TwoAt g N lt mid e b len (P ++ M1) (L.drop (s - a)) (R.drop (e - m)) S W := by
    refine ⟨by rw [List.append_assoc]; exact hA, ?_, ?_, ?_, ?_, ?_, h.sL.sublist (List.drop_sublist _ _), h.sR.sublist (List.drop_sublist _ _), fun x hx y hy => h.LR x (List.mem_of_mem_drop hx) y (List.mem_of_mem_drop hy), fun x hx => h.lo x (List.mem_of_mem_drop hx), fun y hy => h.hi y (List.mem_of_mem_drop hy), ?_, h.small⟩
    · rw [List.length_append]; omega
    · rw [List.length_drop]; omega
    · rw [List.length_drop]; omega
    · rw [List.length_drop]; omega
    · rw [List.length_drop]; omega
    · have h9 := p.length_eq
      simp only [List.length_append] at hl h9 ⊢
      omega
  refine (hS mid e b _ _ _ _ W (by omega) (hK.keep _ _ hGw hO) hT).mono ?_
  rintro e' W' ⟨M2, p2, q2, rfl, h5, h6⟩
  have hm := merged h.sL h.sR p p2 q q2 hc.LR hc.RL
  exact ⟨M1 ++ M2, hm.2, hm.1, rfl, by simpa only [List.append_assoc] using h5, hO.trans h6 (fun b _ hb => hb)⟩
theorem parts_none2 (h : TwoAt g N lt a m b len P L R S w) (hc : CutAt lt a m b mid s e L R) (h1 : ¬ (mid < e ∧ e < b)) (hW : Parts2 g lt P L R S (s - a) (e - m) w W) : RetPerm g lt P (L ++ R) S w (.returned (.tuple #[])) W := by
  obtain ⟨M1, p, q, hA, hO⟩ := hW
  have a1 := h.hP
  have a2 := h.hL
  have a3 := h.hR
  have a4 := hc.hsum
  have a5 := hc.hme
  have a6 := hc.hs
  have a7 := hc.hsm
  have a8 := hc.heb
  have hm := merged h.sL h.sR p (List.Perm.refl (L.drop (s - a) ++ R.drop (e - m))) q (srt_one (h.sL.sublist (List.drop_sublist _ _)) (h.sR.sublist (List.drop_sublist _ _)) (by
    rcases Nat.lt_or_ge mid e with h2 | h2
    · exact .inr (List.drop_of_length_le (by omega))
    · exact .inl (List.drop_of_length_le (by omega)))) hc.LR hc.RL
  exact ⟨_, hm.2, hm.1, rfl, by simpa only [List.append_assoc] using hA, hO⟩
end
end Go.Proofs.Ytbnbeailbhnbdaa
