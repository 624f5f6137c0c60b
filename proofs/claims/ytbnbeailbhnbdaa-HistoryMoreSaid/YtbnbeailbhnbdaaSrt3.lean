/-
  slices' stable sort at numbers: what is asked of the comparison; insertion sort.
-/
import Derived.Test.YtbnbeailbhnbdaaSrt2
import Derived.Deep.RegionHeld3
set_option linter.unusedVariables false
set_option linter.unusedSimpArgs false
namespace Go.Proofs.Ytbnbeailbhnbdaa
open Go.RowKit

/-- The comparison has told whether x stands ahead of y. -/
def RetCmp (lt : Int → Int → Bool) (x y : Int) (W : World) (e : Ending) (w' : World) : Prop := ∃ r : Int, e = .returned (.int .i64 r) ∧ decide (r < 0) = lt x y ∧ Below W.heap.size W w'
def cmpV (p1 p2 : Nat) : Value := .func (.func 53) #[] #[.pointer (some ⟨p1, 0, none⟩), .pointer (some ⟨p2, 0, none⟩)]
/-- The comparison serves in all worlds of G, for numbers below N; G outlasts what is done to block g. -/
structure CmpOK (G : World → Prop) (g : Nat) (N : Int) (p1 p2 : Nat) (lt : Int → Int → Bool) : Prop where
  keep : ∀ W W', G W → Outside (· = g) W W' → G W'
  call : ∀ W x y, G W → 0 ≤ y → y < x → x < N → Calls Try.prog 53 #[.int .i64 x, .int .i64 y, .pointer (some ⟨p1, 0, none⟩), .pointer (some ⟨p2, 0, none⟩)] W (RetCmp lt x y W)
def RetPerm (g : Nat) (lt : Int → Int → Bool) (P T S : List Int) (w : World) (e : Ending) (w' : World) : Prop := ∃ M, M.Perm T ∧ Srt lt M ∧ e = .returned (.tuple #[]) ∧ ArrAt g (P ++ (M ++ S)) w' ∧ Outside (· = g) w w'
def InsLoop (g a : Nat) (lt : Int → Int → Bool) (P T S : List Int) (w : World) (s8 : Value) (wr : World) : Prop :=
  ∃ (k : Nat) (M : List Int), s8 = .int .i64 ((a + k : Nat) : Int) ∧ 1 ≤ k ∧ (k ≤ T.length ∨ k = 1) ∧ M.Perm (T.take k) ∧ Srt lt M ∧ ArrAt g (P ++ (M ++ (T.drop k ++ S))) wr ∧ Outside (· = g) w wr
def InsIn (g a : Nat) (lt : Int → Int → Bool) (P M Z : List Int) (x : Int) (w : World) (s9 : Value) (wr : World) : Prop :=
  ∃ (M1 M2 : List Int) (j : Nat), s9 = .int .i64 (j : Int) ∧ M1 ++ M2 = M ∧ a + M1.length = j ∧ (∀ z ∈ M2, lt x z = true) ∧ ArrAt g (P ++ (M1 ++ (x :: (M2 ++ Z)))) wr ∧ Outside (· = g) w wr
theorem ins_srt {lt : Int → Int → Bool} (ho : LO lt) {M1 M2 : List Int} {x : Int} (hs : Srt lt (M1 ++ M2)) (h2 : ∀ z ∈ M2, lt x z = true) (h1 : ∀ z ∈ M1, lt z x = true) : Srt lt (M1 ++ x :: M2) := by
  have hp := List.pairwise_append.1 hs
  refine List.pairwise_append.2 ⟨hp.1, List.pairwise_cons.2 ⟨h2, hp.2.1⟩, fun u hu v hv => ?_⟩
  rcases List.mem_cons.1 hv with rfl | hv
  · exact h1 u hu
  · exact hp.2.2 u hu v hv
theorem ins_last {lt : Int → Int → Bool} (ho : LO lt) {M1 M2 : List Int} {x z : Int} (hs : Srt lt (M1 ++ [z] ++ M2)) (hz : lt z x = true) : ∀ u ∈ M1 ++ [z], lt u x = true := by
  have hp := (List.pairwise_append.1 (List.pairwise_append.1 hs).1).2.2
  intro u hu
  rcases List.mem_append.1 hu with hu | hu
  · exact ho.tr _ _ _ (hp u hu z (by simp)) hz
  · simp at hu
    subst hu
    exact hz
set_option maxHeartbeats 4000000 in
theorem insertion_any {G : World → Prop} {g : Nat} {N : Int} {p1 p2 : Nat} {lt : Int → Int → Bool} (hC : CmpOK G g N p1 p2 lt) (ho : LO lt) (a b len : Nat) (P T S : List Int) (w : World) (hG : G w) (h : ArrAt g (P ++ (T ++ S)) w) (hP : P.length = a) (hb : a + T.length = b) (hT : T.Pairwise (· < ·)) (hr : ∀ x ∈ T, 0 ≤ x ∧ x < N) (hl : (P ++ (T ++ S)).length = len) (hm : len ≤ 140737488355328) :
    Calls Try.prog 58 #[.slice (some ⟨g, 0, none⟩) len len, .int .i64 (a : Int), .int .i64 (b : Int), cmpV p1 p2] w (RetPerm g lt P T S w) := by
  have hbl : b ≤ len := by
    rw [← hl]
    simp only [List.length_append]
    omega
  have HS : Hid (InsLoop g a lt P T S w (.int .i64 ((a : Int) + 1)) w) := Lib.hid ⟨1, T.take 1, by go_num, Nat.le_refl _, .inr rfl, List.Perm.refl _, by
    rcases T with _ | ⟨t, T⟩
    · exact List.Pairwise.nil
    · simp, by
    have := List.take_append_drop 1 T
    rw [← List.append_assoc (T.take 1), this]
    exact h, Outside.refl _ _⟩
  have HP := Lib.hid hP
  have HB := Lib.hid hb
  have HT := Lib.hid hT
  have HR := Lib.hid hr
  have HL := Lib.hid hl
  have HG := Lib.hid hG
  have HC := Lib.hid hC
  have hab : a ≤ b := by omega
  clear h hP hb hT hr hl hG hC
  unfold cmpV
  go_enter Try.func58, Try.ntmps58
  go_wp2_with fail
  go_loopw [8] (fun s8 wr => InsLoop g a lt P T S w s8 wr) (fun s8 _ => b - (intOf s8).toNat)
  case atStart => exact HS.out
  case round =>
    obtain ⟨k, M, rfl, hk1, hkT, hperm, hsrt, harr, hout⟩ := hrel
    have HPE := Lib.hid hperm
    have HSR := Lib.hid hsrt
    have HA := Lib.hid harr
    have HO := Lib.hid hout
    obtain ⟨i, hi⟩ : ∃ i, a + k = i := ⟨_, rfl⟩
    rw [hi]
    have HI := Lib.hid hi
    by_cases hlt : k < T.length
    · have hib : i < b := by have := HB.out; omega
      have hii : (i : Int) < (b : Int) := by omega
      have htk : T.drop k = T[k] :: T.drop (k + 1) := by rw [List.getElem_cons_drop]
      obtain ⟨x, hx⟩ : ∃ x, T[k] = x := ⟨_, rfl⟩
      rw [hx] at htk
      have hxN := HR.out x (by rw [← hx]; exact List.getElem_mem hlt)
      have hlx : ∀ z ∈ M, 0 ≤ z ∧ z < x := by
        intro z hz
        have hz' := hperm.mem_iff.1 hz
        refine ⟨(HR.out z (List.mem_of_mem_take hz')).1, ?_⟩
        obtain ⟨u, hu, rfl⟩ := List.getElem_of_mem hz'
        rw [List.getElem_take, ← hx]
        simp at hu
        exact List.pairwise_iff_getElem.1 HT.out u k (by omega) hlt (by omega)
      have hML : M.length = k := by rw [hperm.length_eq, List.length_take]; omega
      have HTK : Hid (T.take (k + 1) = T.take k ++ [x]) := Lib.hid (by rw [List.take_succ_eq_append_getElem hlt, hx])
      obtain ⟨Z, hZ⟩ : ∃ Z, T.drop (k + 1) ++ S = Z := ⟨_, rfl⟩
      have HIN : Hid (InsIn g a lt P M Z x w (.int .i64 (i : Int)) wr) := Lib.hid ⟨M, [], i, rfl, by simp, by omega, by simp, by
        rw [htk] at harr
        rw [← hZ]
        simpa using harr, hout⟩
      have HZ := Lib.hid hZ
      have HLX := Lib.hid hlx
      have HML := Lib.hid hML
      have HLEN : Hid (P.length + (M.length + (Z.length + 1)) = len) := Lib.hid (by
        have h1 := HL.out
        have h2 : Z.length = T.length - (k + 1) + S.length := by rw [← hZ, List.length_append, List.length_drop]
        simp only [List.length_append] at h1
        omega)
      clear hperm hsrt harr hout hi htk hx hlx hML hZ
      go_wp2_with fail
      obtain ⟨wo, hwo⟩ : ∃ wo : World, wo = wr := ⟨_, rfl⟩
      rw [← hwo] at HA HO HIN ⊢
      clear hwo
      go_loopw [9] (fun s9 wr => InsIn g a lt P M Z x w s9 wr) (fun s9 _ => (intOf s9).toNat)
      case atStart => exact HIN.out
      case round =>
        obtain ⟨M1, M2, j, rfl, hM, hj, h2, harr, hout⟩ := hrel
        have HM := Lib.hid hM
        have H2 := Lib.hid h2
        have HA2 := Lib.hid harr
        have HO2 := Lib.hid hout
        have hj0 : (0 : Int) ≤ (j : Int) := by omega
        have hjl : j < len := by
          have h1 := HLEN.out
          have h3 := HP.out
          rw [← hM, List.length_append] at h1
          omega
        have hji : (j : Int) < (len : Int) := by omega
        rcases List.eq_nil_or_concat M1 with hM1 | ⟨M1', z, hM1⟩
        · subst hM1
          have hja : j = a := by simpa using hj.symm
          have dj : decide (a < j) = false := decide_eq_false (by omega)
          have dji : ¬ (a : Int) < (j : Int) := by omega
          clear hM h2 harr hout hj
          go_wp2_with fail
          go_quiet (fail)
          go_wp2_with fail
          go_roundw
          case rel =>
            refine ⟨k + 1, x :: M2, ?_, by omega, .inl hlt, ?_, ins_srt (M1 := []) ho (by rw [HM.out]; exact HSR.out) H2.out (by simp), ?_, HO2.out.trans (Outside.of_below (below_drewN _ _)) (fun b _ hb => hb)⟩
            · rw [show a + (k + 1) = i + 1 by have := HI.out; omega]; go_num
            · rw [HTK.out]
              have hm := HM.out
              simp only [List.nil_append] at hm
              rw [hm]
              exact (HPE.out.cons x).trans (List.perm_append_comm (l₁ := [x]))
            · have : ArrAt g (P ++ ([] ++ x :: (M2 ++ Z))) (wr.drewN nq) := HA2.out
              rw [← HZ.out] at this
              simpa using this
          case measure => simp [intOf]; omega
        · subst hM1
          rw [List.concat_eq_append] at hM harr hj HM HA2
          have hja : a < j := by rw [← hj]; simp
          have dj : decide (a < j) = true := decide_eq_true hja
          have dji : (a : Int) < (j : Int) := by omega
          have hzM : z ∈ M := by rw [← hM]; simp
          have hzx := HLX.out z hzM
          have hc1 : wr.cell? ⟨g, j, none⟩ = some (.int .i64 x) := by
            have := harr.cell (i := j) (by simp only [List.length_append, List.length_cons]; have := HP.out; simp at hj; omega)
            rw [this]
            have hpj : (P ++ (M1' ++ [z])).length = j := by simp only [List.length_append]; have := HP.out; simp at hj ⊢; omega
            rw [← List.append_assoc P, ← hpj, getD_mid]
          have hc2 : wr.cell? ⟨g, j - 1, none⟩ = some (.int .i64 z) := by
            have := harr.cell (i := j - 1) (by simp only [List.length_append, List.length_cons]; have := HP.out; simp at hj; omega)
            rw [this]
            have hpj : (P ++ M1').length = j - 1 := by simp only [List.length_append]; have := HP.out; simp at hj ⊢; omega
            rw [show P ++ (M1' ++ [z] ++ x :: (M2 ++ Z)) = (P ++ M1') ++ z :: (x :: (M2 ++ Z)) by simp, ← hpj, getD_mid]
          have e1 : IntKind.i64.wrap ((j : Int) - 1) = (j : Int) - 1 := IntWalk.i64_in _ (by omega)
          have e2 : (0 : Int) ≤ (j : Int) - 1 := by omega
          have e3 : (j : Int) - 1 < (len : Int) := by omega
          have e4 : ((j : Int) - 1).toNat = j - 1 := by omega
          have e5 : (1 : Int) ≤ (j : Int) := by omega
          have e6 : (j : Int) < (len : Int) + 1 := by omega
          have HZX := Lib.hid hzx
          have HJ := Lib.hid hj
          have d1 : wr.drew.cell? ⟨g, j, none⟩ = some (.int .i64 x) := hc1
          have d2 : wr.drew.cell? ⟨g, j - 1, none⟩ = some (.int .i64 z) := hc2
          have HGR : Hid (G wr.drew) := Lib.hid (HC.out.keep _ _ HG.out hout.drew)
          clear hM h2 harr hout hj hzM hzx
          obtain ⟨lb, hlb⟩ : ∃ lb, lt x z = lb := ⟨_, rfl⟩
          have HLB := Lib.hid hlb
          clear hlb
          go_wp2_with fail
          go_region_held3 (fun W' => W'.cell? ⟨g, j, none⟩ = some (.int .i64 x) ∧ W'.cell? ⟨g, j - 1, none⟩ = some (.int .i64 z))
            (first
              | exact ⟨d1, d2⟩
              | exact ⟨k1, k2⟩
              | fail)
            (first
              | (go_simp; go_at_call 53; refine (HC.out.call wr.drew x z HGR.out HZX.out.1 HZX.out.2 hxN.2).mono ?_; rintro e w5 ⟨r, rfl, hr5, hb5⟩; rw [HLB.out] at hr5; have k1 := (hb5.cell (p := ⟨g, j, none⟩) (World.block_lt_of_cell? _ _ d1)).trans d1; have k2 := (hb5.cell (p := ⟨g, j - 1, none⟩) (World.block_lt_of_cell? _ _ d2)).trans d2; have HB5 := Lib.hid hb5; clear hb5)
              | fail)
          have HA5 : Hid (ArrAt g (P ++ (M1' ++ [z] ++ (x :: (M2 ++ Z)))) w5) := Lib.hid (HA2.out.drew.below HB5.out)
          have HO5 : Hid (Outside (· = g) w w5) := Lib.hid (HO2.out.drew.trans (Outside.of_below HB5.out) (fun b _ hb => hb))
          cases lb with
          | true =>
            have k3 := HA5.out.frozen j
            have k4 := HA5.out.frozen (j - 1)
            have q1 : w5.drew.cell? ⟨g, j, none⟩ = some (.int .i64 x) := k1
            have q2 : w5.drew.cell? ⟨g, j - 1, none⟩ = some (.int .i64 z) := k2
            have q3 : w5.drew.frozen? ⟨g, j, none⟩ = false := k3
            have q4 : w5.drew.frozen? ⟨g, j - 1, none⟩ = false := k4
            have hne : (⟨g, j, none⟩ : Addr) ≠ ⟨g, j - 1, none⟩ := by intro e; injection e; omega
            clear hc1 hc2 d1 d2
            go_wp2_with fail
            go_region_law (fail)
            all_goals go_wp2
            all_goals
              go_roundw
              case rel =>
                 refine ⟨M1', z :: M2, j - 1, ?_, by rw [← HM.out]; simp, by have := HJ.out; simp at this; omega, ?_, ?_, out_swap HO5.out _ _ _ _⟩
                 · rw [show ((j - 1 : Nat) : Int) = (j : Int) - 1 by omega]
                 · intro u hu
                   rcases List.mem_cons.1 hu with rfl | hu
                   · exact HLB.out
                   · exact H2.out u hu
                 · have hsw := HA5.out.drew.swap (i := j) (j := j - 1) (x := x) (y := z) ?_ ?_
                   · have hpj : (P ++ M1').length = j - 1 := by simp only [List.length_append]; have := HP.out; have := HJ.out; simp at this; omega
                     have hs2 := swap_next (P ++ M1') (M2 ++ Z) z x
                     rw [hpj, show j - 1 + 1 = j by omega, swapL_comm (by omega)] at hs2
                     rw [show P ++ (M1' ++ [z] ++ x :: (M2 ++ Z)) = (P ++ M1') ++ z :: x :: (M2 ++ Z) by simp, hs2, show P ++ M1' ++ x :: z :: (M2 ++ Z) = P ++ (M1' ++ x :: (z :: M2 ++ Z)) by simp] at hsw
                     exact hsw
                   · have h1 := HA5.out.cell (i := j) (by simp only [List.length_append, List.length_cons]; have := HP.out; have := HJ.out; simp at this; omega)
                     rw [k1] at h1
                     injection h1 with h1
                     injection h1 with _ h1
                     exact h1.symm
                   · have h1 := HA5.out.cell (i := j - 1) (by simp only [List.length_append, List.length_cons]; have := HP.out; have := HJ.out; simp at this; omega)
                     rw [k2] at h1
                     injection h1 with h1
                     injection h1 with _ h1
                     exact h1.symm
              case measure => simp [intOf]; omega
          | false =>
            have hzx2 : lt z x = true := ho.of_not (by have := HZX.out; omega) HLB.out
            have HZX2 := Lib.hid hzx2
            clear hc1 hc2 d1 d2 hzx2
            go_wp2_with fail
            go_roundw
            case rel =>
              refine ⟨k + 1, M1' ++ [z] ++ x :: M2, ?_, by omega, .inl hlt, ?_, ins_srt ho (by rw [HM.out]; exact HSR.out) H2.out (ins_last ho (by rw [HM.out]; exact HSR.out) HZX2.out), ?_, HO5.out⟩
              · rw [show a + (k + 1) = i + 1 by have := HI.out; omega]; go_num
              · rw [HTK.out]
                refine List.perm_middle.trans ?_
                rw [HM.out]
                exact (HPE.out.cons x).trans (List.perm_append_comm (l₁ := [x]))
              · have := HA5.out
                rw [← HZ.out] at this
                simpa using this
            case measure => simp [intOf]; omega
    · have hib : ¬ (i : Int) < (b : Int) := by have := HB.out; omega
      go_wp2_with fail
      go_end0
      have hp := HPE.out
      have ha := HA.out
      rw [List.take_of_length_le (by omega)] at hp
      rw [List.drop_of_length_le (by omega), List.nil_append] at ha
      exact ⟨M, hp, HSR.out, rfl, ha, HO.out⟩
end Go.Proofs.Ytbnbeailbhnbdaa
