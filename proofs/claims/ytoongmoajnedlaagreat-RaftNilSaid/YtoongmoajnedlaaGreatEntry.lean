/-
  Package wire: which entries may be; PutEntry.
-/
import Derived.Test.YtoongmoajnedlaaGreatServ
import Derived.Deep.RegionHeld3
set_option linter.unusedVariables false
set_option linter.unusedSimpArgs false
namespace Go.Proofs.YtoongmoajnedlaaGreat
open Go.RowKit

/-- An entry's value; d: its data. -/
def Ent.val (x : Ent) (d : Value) : Value := .agg #[.int .i64 x.term, .int .i64 x.index, .int .i64 x.kind, d]
theorem rightE_len {x : Ent} (h : rightE x = true) : x.data.length ≤ 4096 := by
  unfold rightE at h
  rw [Bool.and_eq_true] at h
  obtain ⟨_, h⟩ := h
  split at h
  · have := of_decide_eq_true h; omega
  · split at h
    · exact of_decide_eq_true h
    · split at h
      · obtain ⟨l, hl, he⟩ := servB_true.1 h
        obtain ⟨h1, h2, h3, h4⟩ := rightS_iff.1 hl
        have key : ∀ m : List Nat, (∀ y ∈ m, y < 16) → (encL m).length ≤ 9 * m.length := by
          intro m
          induction m with
          | nil => intro _; simp [encL]
          | cons a r ih =>
            intro hm
            have := ih (fun y hy => hm y (List.mem_cons_of_mem _ hy))
            have h9 := encN_len (x := a) (by have := hm a List.mem_cons_self; omega)
            have e : encL (a :: r) = encN a ++ encL r := by simp [encL]
            rw [e, List.length_append, List.length_cons]
            omega
        have h5 := key l h3
        have h6 := encN_len (x := l.length) (by omega)
        rw [← he]
        unfold encS
        rw [List.length_append]
        omega
      · cases h
theorem rightE_num {x : Ent} (h : rightE x = true) : 1 ≤ x.term ∧ x.term < 1099511627776 ∧ 1 ≤ x.index ∧ x.index < 1099511627776 ∧ 1 ≤ x.kind ∧ x.kind ≤ 3 := by
  unfold rightE at h
  simp only [Bool.and_eq_true, decide_eq_true_eq] at h
  obtain ⟨⟨⟨h1, h2⟩, h3, h4⟩, h⟩ := h
  refine ⟨h1, h2, h3, h4, ?_⟩
  split at h
  · omega
  · split at h
    · omega
    · split at h
      · omega
      · cases h
set_option maxHeartbeats 4000000 in
theorem right_any (x : Ent) (A : Option Addr) (n c : Nat) (w : World) (hn : x.data.length = n) (hc : n ≤ c) (hl : n ≤ 140737488355328) (h : Sees w A (u8s x.data)) :
    Calls Tryz.prog 155 #[x.val (.slice A n c)] w (RetBool w (rightE x)) := by
  obtain ⟨t, i, k, data⟩ := x
  dsimp only at hn h
  unfold Ent.val
  dsimp only
  obtain ⟨W, hW⟩ : ∃ W, w.alloc (.cells #[.int .i64 t, .int .i64 i, .int .i64 k, .slice A n c] 110) = W := ⟨_, rfl⟩
  have hb : Below w.heap.size w W := by rw [← hW]; exact (Below.refl _ _).alloc (Nat.le_refl _) _
  have k0 : W.cell? ⟨w.heap.size, 0, none⟩ = some (.int .i64 t) := by rw [← hW]; simp
  have k1 : W.cell? ⟨w.heap.size, 1, none⟩ = some (.int .i64 i) := by rw [← hW]; simp
  have k2 : W.cell? ⟨w.heap.size, 2, none⟩ = some (.int .i64 k) := by rw [← hW]; simp
  have k3 : W.cell? ⟨w.heap.size, 3, none⟩ = some (.slice A n c) := by rw [← hW]; simp
  have HW := Lib.hid hW
  have HB := Lib.hid hb
  have HGS := Lib.hid (getservers_any A data n c W hn hc hl (h.below hb))
  have hlen : rightE ⟨t, i, k, data⟩ = ((decide (1 ≤ t) && decide (t < 1099511627776) && (decide (1 ≤ i) && decide (i < 1099511627776))) && (if k = 1 then decide (n = 0) else if k = 2 then decide (n ≤ 4096) else if k = 3 then servB data else false)) := by
    unfold rightE
    rw [← hn]
  have HR := Lib.hid hlen
  clear hW hb hlen h hn
  by_cases g1 : 1 ≤ t ∧ t < 1099511627776 ∧ 1 ≤ i ∧ i < 1099511627776
  · obtain ⟨t1, t2, i1, i2⟩ := g1
    have HR2 : Hid (rightE ⟨t, i, k, data⟩ = (if k = 1 then decide (n = 0) else if k = 2 then decide (n ≤ 4096) else if k = 3 then servB data else false)) := Lib.hid (by rw [HR.out, decide_eq_true t1, decide_eq_true t2, decide_eq_true i1, decide_eq_true i2]; rfl)
    have t1' : ¬ t < 1 := by omega
    have t2' : ¬ (1099511627776 : Int) ≤ t := by omega
    have i1' : ¬ i < 1 := by omega
    have i2' : ¬ (1099511627776 : Int) ≤ i := by omega
    clear HR
    by_cases q1 : k = 1
    · subst q1
      have HR3 : Hid (rightE ⟨t, i, 1, data⟩ = decide (n = 0)) := Lib.hid (by rw [HR2.out, if_pos rfl])
      clear HR2
      go_enter Tryz.func155, Tryz.ntmps155
      go_upto_region 1 with fail
      rw [HW.out]
      go_wp2_with fail
      go_ret
      refine ⟨?_, HB.out⟩
      rw [HR3.out]
      by_cases h0 : n = 0
      · subst h0; rfl
      · simp [h0]
    · have q1' : (k == 1) = false := by simpa using q1
      by_cases q2 : k = 2
      · subst q2
        have HR3 : Hid (rightE ⟨t, i, 2, data⟩ = decide (n ≤ 4096)) := Lib.hid (by rw [HR2.out, if_neg (by decide), if_pos rfl])
        clear HR2
        go_enter Tryz.func155, Tryz.ntmps155
        go_upto_region 1 with fail
        rw [HW.out]
        go_wp2_with fail
        go_ret
        refine ⟨?_, HB.out⟩
        rw [HR3.out]
        by_cases h0 : n ≤ 4096
        · have : (n : Int) ≤ 4096 := by omega
          simp [h0, this]
        · have : ¬ (n : Int) ≤ 4096 := by omega
          simp [h0, this]
      · have q2' : (k == 2) = false := by simpa using q2
        by_cases q3 : k = 3
        · subst q3
          have HR3 : Hid (rightE ⟨t, i, 3, data⟩ = servB data) := Lib.hid (by rw [HR2.out, if_neg (by decide), if_neg (by decide), if_pos rfl])
          clear HR2
          go_enter Tryz.func155, Tryz.ntmps155
          go_upto_region 1 with fail
          rw [HW.out]
          go_wp2_with (first
            | (go_at_call 125; refine HGS.out.mono ?_; rintro e w2 ⟨A1, n1, c1, er, rfl, he, hb2⟩; have HE := Lib.hid he; have HB2 := Lib.hid (below_step HB.out HB.out.size hb2); clear he hb2)
            | fail)
          go_ret
          refine ⟨?_, HB2.out⟩
          rw [HR3.out, ← HE.out]
          rfl
        · have q3' : (k == 3) = false := by simpa using q3
          have HR3 : Hid (rightE ⟨t, i, k, data⟩ = false) := Lib.hid (by rw [HR2.out, if_neg q1, if_neg q2, if_neg q3])
          clear HR2
          go_enter Tryz.func155, Tryz.ntmps155
          go_upto_region 1 with fail
          rw [HW.out]
          go_wp2_with fail
          go_ret
          refine ⟨?_, HB.out⟩
          rw [HR3.out]
          rfl
  · have HR3 : Hid (rightE ⟨t, i, k, data⟩ = false) := Lib.hid (by
      rw [HR.out]
      have : (decide (1 ≤ t) && decide (t < 1099511627776) && (decide (1 ≤ i) && decide (i < 1099511627776))) = false := by
        cases h : (decide (1 ≤ t) && decide (t < 1099511627776) && (decide (1 ≤ i) && decide (i < 1099511627776))) with
        | false => rfl
        | true =>
          simp only [Bool.and_eq_true, decide_eq_true_eq] at h
          exact absurd ⟨h.1.1, h.1.2, h.2.1, h.2.2⟩ g1
      rw [this, Bool.false_and])
    clear HR
    have hways : t < 1 ∨ (¬ t < 1 ∧ 1099511627776 ≤ t) ∨ (¬ t < 1 ∧ ¬ 1099511627776 ≤ t ∧ i < 1) ∨ (¬ t < 1 ∧ ¬ 1099511627776 ≤ t ∧ ¬ i < 1 ∧ 1099511627776 ≤ i) := by omega
    clear g1
    rcases hways with g1 | ⟨g1, g2⟩ | ⟨g1, g2, g3⟩ | ⟨g1, g2, g3, g4⟩
    all_goals
      go_enter Tryz.func155, Tryz.ntmps155
      go_upto_region 1 with fail
      rw [HW.out]
      go_wp2_with fail
      go_ret
      refine ⟨?_, HB.out⟩
      rw [HR3.out]
      rfl
def RetPE (x : Ent) (w : World) (e : Ending) (w' : World) : Prop := ∃ A1 n1 c1 er, e = .returned (.tuple #[.slice A1 n1 c1, .int .i64 er]) ∧ (er == 0) = rightE x ∧ Below w.heap.size w w'
theorem parts4 {W : World} {At Ai Ak Ab : Option Addr} {ct ci ck cb n3 : Nat} {et ei ek eb : List UInt8} (h3 : n3 = eb.length) (ht : Sees W At (u8s et)) (hi : Sees W Ai (u8s ei)) (hk : Sees W Ak (u8s ek)) (hb : Sees W Ab (u8s eb)) :
    PartsAt (W.alloc (.cells #[.slice At et.length ct, .slice Ai ei.length ci, .slice Ak ek.length ck, .slice Ab n3 cb] 29)) (some ⟨W.heap.size, 0, none⟩) [et, ei, ek, eb] := by
  subst h3
  have hal : Below W.heap.size W (W.alloc (.cells #[.slice At et.length ct, .slice Ai ei.length ci, .slice Ak ek.length ck, .slice Ab eb.length cb] 29)) := (Below.refl _ _).alloc (Nat.le_refl _) _
  refine parts_lit (vs := [Value.slice At et.length ct, Value.slice Ai ei.length ci, Value.slice Ak ek.length ck, Value.slice Ab eb.length cb]) rfl (fun k p hk' => ?_)
  match k, hk' with
  | 0, h => cases h; exact ⟨At, ct, rfl, ht.below hal⟩
  | 1, h => cases h; exact ⟨Ai, ci, rfl, hi.below hal⟩
  | 2, h => cases h; exact ⟨Ak, ck, rfl, hk.below hal⟩
  | 3, h => cases h; exact ⟨Ab, cb, rfl, hb.below hal⟩
set_option maxRecDepth 16384 in
set_option maxHeartbeats 8000000 in
theorem putentry_any (x : Ent) (A : Option Addr) (n c : Nat) (w : World) (hn : x.data.length = n) (hc : n ≤ c) (hl : n ≤ 140737488355328) (h : Sees w A (u8s x.data)) :
    Calls Tryz.prog 104 #[x.val (.slice A n c)] w (RetPE x w) := by
  obtain ⟨W, hW⟩ : ∃ W, w.alloc (.cells #[.int .i64 x.term, .int .i64 x.index, .int .i64 x.kind, .slice A n c] 110) = W := ⟨_, rfl⟩
  have hb : Below w.heap.size w W := by rw [← hW]; exact (Below.refl _ _).alloc (Nat.le_refl _) _
  have k0 : W.cell? ⟨w.heap.size, 0, none⟩ = some (.int .i64 x.term) := by rw [← hW]; simp
  have k1 : W.cell? ⟨w.heap.size, 1, none⟩ = some (.int .i64 x.index) := by rw [← hW]; simp
  have k2 : W.cell? ⟨w.heap.size, 2, none⟩ = some (.int .i64 x.kind) := by rw [← hW]; simp
  have k3 : W.cell? ⟨w.heap.size, 3, none⟩ = some (.slice A n c) := by rw [← hW]; simp
  have HRT := Lib.hid (right_any x A n c W hn hc hl (h.below hb))
  unfold Ent.val at HRT ⊢
  have HW := Lib.hid hW
  have HB := Lib.hid hb
  have HS := Lib.hid (h.below hb)
  have HN := Lib.hid hn
  obtain ⟨gb, hgb⟩ : ∃ gb, w.heap.size = gb := ⟨_, rfl⟩
  rw [hgb] at k0 k1 k2 k3
  have HGB := Lib.hid hgb
  obtain ⟨r, hr⟩ : ∃ r, rightE x = r := ⟨_, rfl⟩
  rw [hr] at HRT
  have HRR := Lib.hid hr
  clear hW hb h hn hgb
  go_enter Tryz.func104, Tryz.ntmps104
  go_upto_region 1 with fail
  rw [HW.out]
  try rw [HGB.out]
  cases r with
  | false =>
    go_wp2_with (first
      | (go_at_call 155; refine HRT.out.mono ?_; rintro e w2 ⟨rfl, hb2⟩; have HB2 := Lib.hid (below_step HB.out HB.out.size hb2); clear hb2)
      | fail)
    go_ret2
    exact ⟨none, 0, 0, 1, rfl, by rw [HRR.out]; rfl, HB2.out⟩
  | true =>
    have hlen := rightE_len hr
    obtain ⟨t1, t2, i1, i2, q1, q2⟩ := rightE_num hr
    rw [HN.out] at hlen
    have HLE := Lib.hid hlen
    have HT6 : Hid (1 ≤ x.term ∧ x.term < 1099511627776 ∧ 1 ≤ x.index ∧ x.index < 1099511627776 ∧ 1 ≤ x.kind ∧ x.kind ≤ 3) := Lib.hid ⟨t1, t2, i1, i2, q1, q2⟩
    have hn20 : n ≤ 1048576 := by omega
    clear hr t1 t2 i1 i2 q1 q2 hlen
    go_upto_region 4 with (first
      | (go_at_call 155; refine HRT.out.mono ?_; rintro e w2 ⟨rfl, hb2⟩; have HB2 := Lib.hid hb2; have y3 := (hb2.cell (World.block_lt_of_cell? _ _ k3)).trans k3; have HPB := Lib.hid (putbytes_any A x.data n c w2 HN.out (HS.out.below hb2) (by omega)); clear hb2)
      | (go_at_call 150; refine HPB.out.mono ?_; rintro e w3 ⟨A3, n3, c3, rfl, hn3, hs3, hb3⟩; have HN3 := Lib.hid hn3; have HS3 := Lib.hid hs3; have HB3 := Lib.hid (below_step HB2.out HB2.out.size hb3); clear hn3 hs3 hb3)
      | fail)
    obtain ⟨t1, t2, i1, i2, q1, q2⟩ := HT6.out
    obtain ⟨tn, htn⟩ : ∃ tn : Nat, x.term = (tn : Int) := ⟨x.term.toNat, by omega⟩
    obtain ⟨ixn, hin⟩ : ∃ ixn : Nat, x.index = (ixn : Int) := ⟨x.index.toNat, by omega⟩
    obtain ⟨kn, hkn⟩ : ∃ kn : Nat, x.kind = (kn : Int) := ⟨x.kind.toNat, by omega⟩
    have z0 := (HB3.out.cell (World.block_lt_of_cell? _ _ k0)).trans k0
    have z1 := (HB3.out.cell (World.block_lt_of_cell? _ _ k1)).trans k1
    have z2 := (HB3.out.cell (World.block_lt_of_cell? _ _ k2)).trans k2
    rw [htn] at z0
    rw [hin] at z1
    rw [hkn] at z2
    have HK : Hid (∀ W', Below w3.heap.size w3 W' → W'.cell? ⟨gb, 0, none⟩ = some (.int .i64 (tn : Int)) ∧ W'.cell? ⟨gb, 1, none⟩ = some (.int .i64 (ixn : Int)) ∧ W'.cell? ⟨gb, 2, none⟩ = some (.int .i64 (kn : Int))) := Lib.hid (fun W' hb' => ⟨(hb'.cell (World.block_lt_of_cell? _ _ z0)).trans z0, (hb'.cell (World.block_lt_of_cell? _ _ z1)).trans z1, (hb'.cell (World.block_lt_of_cell? _ _ z2)).trans z2⟩)
    have HSUM : Hid (sumL [encN tn, encN ixn, encN kn, encB x.data] ≤ 1099511627776) := Lib.hid (by
      simp only [sumL]
      unfold encB
      rw [List.length_append, HN.out]
      have := encN_len (x := n) (by omega)
      have := encN_len (x := tn) (by omega)
      have := encN_len (x := ixn) (by omega)
      have := encN_len (x := kn) (by omega)
      have := HLE.out
      omega)
    have ht63 : tn < 9223372036854775808 := by omega
    have hi63 : ixn < 9223372036854775808 := by omega
    have hk63 : kn < 9223372036854775808 := by omega
    obtain ⟨eb, heb⟩ : ∃ eb, encB x.data = eb := ⟨_, rfl⟩
    rw [heb] at HN3 HS3 HSUM
    have HB4 : Hid (Below w.heap.size w w3) := Lib.hid (below_step HB.out HB.out.size HB3.out)
    have HSB : Hid (∀ W', Below w3.heap.size w3 W' → Sees W' A3 (u8s eb)) := Lib.hid (fun W' hb' => HS3.out.below hb')
    clear z0 z1 z2 k0 k1 k2 k3 y3 heb htn hin hkn t1 t2 i1 i2 q1 q2 HRT
    have b0 : Below w3.heap.size w3 w3.drew := (Below.refl _ _).drew
    go_region_held3 (fun W' => Below w3.heap.size w3 W' ∧ W'.cell? ⟨gb, 0, none⟩ = some (.int .i64 (tn : Int)) ∧ W'.cell? ⟨gb, 1, none⟩ = some (.int .i64 (ixn : Int)) ∧ W'.cell? ⟨gb, 2, none⟩ = some (.int .i64 (kn : Int)))
      (first
        | (refine ⟨?_, HK.out _ ?_⟩ <;> assumption)
        | (refine (fun hx => ⟨hx, HK.out _ hx⟩) ?_; exact Below.alloc (show Below w3.heap.size w3 _ by assumption) (Below.size (by assumption)) _)
        | fail)
      (first
        | (go_at_call 136; refine (number_any _ _ (by assumption)).mono ?_; rintro e wt ⟨At, ct, rfl, hct, hst, hbt⟩; have hbt' := below_step (show Below w3.heap.size w3 _ by assumption) (Below.size (by assumption)) hbt; (try have hq1 := (show Sees _ _ (u8s (encN tn)) by assumption).below hbt); (try have hq2 := (show Sees _ _ (u8s (encN ixn)) by assumption).below hbt); (try have hq3 := (show Sees _ _ (u8s (encN kn)) by assumption).below hbt))
        | (go_simp; go_at_call 107; refine (join_any _ [encN tn, encN ixn, encN kn, eb] 4 4 _ rfl (parts4 HN3.out (by assumption) (by assumption) (by assumption) (HSB.out _ (by assumption))) (by decide) HSUM.out).mono ?_; rintro e w9 ⟨A9, c9, rfl, hc9, hs9, hb9⟩; have hb9' := below_step (Below.alloc (show Below w3.heap.size w3 _ by assumption) (Below.size (by assumption)) _) (Below.size (Below.alloc (show Below w3.heap.size w3 _ by assumption) (Below.size (by assumption)) _)) hb9; have HB9 := Lib.hid (below_step HB4.out HB4.out.size hb9'))
        | fail)
    all_goals go_wp2_with fail
    all_goals go_ret2
    all_goals exact ⟨A9, _, c9, 0, rfl, by rw [HRR.out]; rfl, HB9.out⟩
end Go.Proofs.YtoongmoajnedlaaGreat
