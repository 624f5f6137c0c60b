/-
  Package progress: Commit of the program.
-/
import Derived.Test.YtoongmoajnedlaaGreatEnt3
import Derived.Test.YtoongmoajnedlaaGreatVcN
set_option linter.unusedVariables false
set_option linter.unusedSimpArgs false
namespace Go.Proofs.YtoongmoajnedlaaGreat
open Go.RowKit

/-- What is committed. -/
def CommitIs (v : Vw) (nth commit term r : Int) : Prop :=
  (rightV v = false ∧ r = commit) ∨ (rightV v = true ∧ ((∃ n, commit < n ∧ v.base < n ∧ n ≤ nth ∧ n ≤ lastV v ∧ atV v n = term ∧ (∀ m, n < m → m ≤ nth → m ≤ lastV v → atV v m ≠ term) ∧ r = n) ∨ ((∀ m, commit < m → v.base < m → m ≤ nth → m ≤ lastV v → atV v m ≠ term) ∧ r = commit)))
theorem CommitIs.one {v : Vw} {nth commit term r s : Int} (h : CommitIs v nth commit term r) (k : CommitIs v nth commit term s) : r = s := by
  rcases h with ⟨h1, rfl⟩ | ⟨h1, h⟩
  · rcases k with ⟨k1, rfl⟩ | ⟨k1, k⟩
    · rfl
    · rw [h1] at k1; cases k1
  rcases k with ⟨k1, rfl⟩ | ⟨k1, k⟩
  · rw [h1] at k1; cases k1
  rcases h with ⟨n, a1, a2, a3, a4, a5, a6, rfl⟩ | ⟨h2, rfl⟩
  · rcases k with ⟨m, b1, b2, b3, b4, b5, b6, rfl⟩ | ⟨k2, rfl⟩
    · rcases Int.lt_trichotomy r s with h9 | h9 | h9
      · exact absurd b5 (a6 s h9 b3 b4)
      · exact h9
      · exact absurd a5 (b6 r h9 a3 a4)
    · exact absurd a5 (k2 r a1 a2 a3 a4)
  · rcases k with ⟨m, b1, b2, b3, b4, b5, b6, rfl⟩ | ⟨k2, rfl⟩
    · exact absurd b5 (h2 s b1 b2 b3 b4)
    · rfl
def RetCommit (v : Vw) (nth commit term : Int) (w : World) (e : Ending) (w' : World) : Prop := ∃ r, e = .returned (.int .i64 r) ∧ CommitIs v nth commit term r ∧ Below w.heap.size w w'
set_option maxRecDepth 16384 in
set_option maxHeartbeats 8000000 in
theorem commit_any (v : Vw) (A : Option Addr) (n c : Nat) (S M : Option Addr) (ns cs cm : Nat) (of : List Int) (commit term : Int) (w : World) (hn : v.l.length = n) (hn2 : n ≤ 140737488355328) (h : SeenE w A v.l) (hs : SmallE v.l)
    (hns : ns * 8 ≤ 140737488355328) (hof : of.length ≤ cm) (hol : of.length ≤ 140737488355328) (hM : Sees w M (of.map i64v)) :
    Calls Tryz.prog 129 #[v.val (.slice A n c), .slice S ns cs, .slice M of.length cm, .int .i64 commit, .int .i64 term] w (RetCommit v (nthV ns of) commit term w) := by
  obtain ⟨W, hW⟩ : ∃ W, w.alloc (.cells #[.int .i64 v.base, .int .i64 v.term, .slice A n c] 48) = W := ⟨_, rfl⟩
  have hb : Below w.heap.size w W := by rw [← hW]; exact (Below.refl _ _).alloc (Nat.le_refl _) _
  have k0 : W.cell? ⟨w.heap.size, 0, none⟩ = some (.int .i64 v.base) := by rw [← hW]; simp
  have k1 : W.cell? ⟨w.heap.size, 1, none⟩ = some (.int .i64 v.term) := by rw [← hW]; simp
  have k2 : W.cell? ⟨w.heap.size, 2, none⟩ = some (.slice A n c) := by rw [← hW]; simp
  have HRT := Lib.hid (rightv_any v A n c W hn hn2 (h.below hb) hs)
  obtain ⟨r, hr⟩ : ∃ r, rightV v = r := ⟨_, rfl⟩
  rw [hr] at HRT
  have HW := Lib.hid hW
  have HB := Lib.hid hb
  have HRR := Lib.hid hr
  obtain ⟨gb, hgb⟩ : ∃ gb, w.heap.size = gb := ⟨_, rfl⟩
  rw [hgb] at k0 k1 k2
  have HGB := Lib.hid hgb
  have H := Lib.hid h
  have HN := Lib.hid hn
  have HLS := Lib.hid (fun W' (hb' : Below w.heap.size w W') => lastof_any v A n c W' hn hn2 (h.below hb') hs)
  have HTO := Lib.hid (fun W' (hb' : Below w.heap.size w W') i => termof_any v i A n c W' hn hn2 (h.below hb') hs)
  have HNT := Lib.hid (fun W' (hb' : Below w.heap.size w W') => nth_any S M ns of cs cm W' hof hns hol (hM.below hb'))
  obtain ⟨nv, hnv⟩ : ∃ nv, nthV ns of = nv := ⟨_, rfl⟩
  rw [hnv] at HNT ⊢
  obtain ⟨mo, hmo⟩ : ∃ mo, of.length = mo := ⟨_, rfl⟩
  rw [hmo] at HNT ⊢
  unfold Vw.val at HRT HLS HTO ⊢
  have HK : Hid (∀ W', Below W.heap.size W W' → W'.cell? ⟨gb, 0, none⟩ = some (.int .i64 v.base) ∧ W'.cell? ⟨gb, 1, none⟩ = some (.int .i64 v.term) ∧ W'.cell? ⟨gb, 2, none⟩ = some (.slice A n c)) := Lib.hid (fun W' hb' => ⟨(hb'.cell (World.block_lt_of_cell? _ _ k0)).trans k0, (hb'.cell (World.block_lt_of_cell? _ _ k1)).trans k1, (hb'.cell (World.block_lt_of_cell? _ _ k2)).trans k2⟩)
  clear hW hb h hn hs hr hgb hM hof hol hmo hnv
  go_enter Tryz.func129, Tryz.ntmps129
  go_upto_region 1 with fail
  rw [HW.out]
  try rw [HGB.out]
  cases r with
  | false =>
    go_wp2_with (first
      | (go_at_call 18; refine HRT.out.mono ?_; rintro e w2 ⟨rfl, hb2⟩; have HB2 := Lib.hid (below_step HB.out HB.out.size hb2); clear hb2)
      | fail)
    go_ret
    exact ⟨commit, rfl, .inl ⟨HRR.out, rfl⟩, HB2.out⟩
  | true =>
    obtain ⟨b1, b2, t1, t2, n1, hrow⟩ := rightV_iff.1 HRR.out
    rw [HN.out] at n1
    have HLV : Hid (lastV v = v.base + (n : Int)) := Lib.hid (by unfold lastV; rw [HN.out])
    obtain ⟨lv, hlv⟩ : ∃ lv, lastV v = lv := ⟨_, rfl⟩
    have HLVE := Lib.hid hlv
    have hlv1 : v.base ≤ lv := by rw [← hlv, HLV.out]; omega
    have hlv2 : lv ≤ 1099511627776 := by rw [← hlv, HLV.out]; omega
    obtain ⟨bs, hbs⟩ : ∃ bs, v.base = bs := ⟨_, rfl⟩
    have HBSE := Lib.hid hbs
    rw [hbs] at b1 hlv1 k0 HK HRT HLS HTO ⊢
    clear b2 t1 t2 n1 hrow hlv hbs
    go_upto_region 4 with (first
      | (go_at_call 18; refine HRT.out.mono ?_; rintro e w2 ⟨rfl, hb2⟩; have HB2 := Lib.hid hb2; obtain ⟨c0, c1, c2⟩ := HK.out _ hb2; have HBW2 := Lib.hid (below_step HB.out HB.out.size hb2); clear hb2)
      | (go_at_call 110; refine (HLS.out _ HBW2.out).mono ?_; rintro e w3 ⟨rfl, hb3⟩; rw [HRR.out, if_pos rfl, if_pos rfl, HLVE.out]; have HB3 := Lib.hid (below_step HB2.out HB2.out.size hb3); have HBW3 := Lib.hid (below_step HBW2.out HBW2.out.size hb3); clear hb3)
      | fail)
    clear k0 k1 k2
    clear c0 c1 c2
    obtain ⟨nm, hnm⟩ : ∃ nm, min nv lv = nm := ⟨_, rfl⟩
    have hnm1 : nm ≤ nv ∧ nm ≤ lv := by omega
    have hnm2 : ∀ m, nm < m → m ≤ nv → m ≤ lv → False := by omega
    have HNM2 := Lib.hid hnm2
    have HNME := Lib.hid hnm
    go_cut [13] from 25 to 29 (fun s13 wc => s13 = .int .i64 nm ∧ Below W.heap.size W wc)
    case first =>
      go_wp2_with (first
        | (go_at_call 166; refine (HNT.out _ HBW3.out).mono ?_; rintro e w4 ⟨rfl, hb4⟩; have HB4 := Lib.hid (below_step HB3.out HB3.out.size hb4); clear hb4)
        | fail)
      all_goals go_meet
      all_goals exact ⟨rfl, HB4.out⟩
    case rest =>
      obtain ⟨rfl, hbc⟩ := hcut
      have HST : Hid (∃ k : Int, Value.int .i64 nm = .int .i64 k ∧ k ≤ nv ∧ k ≤ lv ∧ (∀ m, k < m → m ≤ nv → m ≤ lv → commit < m → bs < m → atV v m ≠ term) ∧ Below W.heap.size W wc) := Lib.hid ⟨nm, rfl, hnm1.1, hnm1.2, fun m a b c => (HNM2.out m a b c).elim, hbc⟩
      clear hbc hnm hnm1 hnm2
      go_wp2_with fail
      go_loopw [13] (fun s13 wr => ∃ k : Int, s13 = .int .i64 k ∧ k ≤ nv ∧ k ≤ lv ∧ (∀ m, k < m → m ≤ nv → m ≤ lv → commit < m → bs < m → atV v m ≠ term) ∧ Below W.heap.size W wr) (fun s13 _ => (intOf s13 - bs).toNat)
      case atStart => exact HST.out
      case round =>
        obtain ⟨k, rfl, hk1, hk2, hno, hb⟩ := hrel
        have HNO := Lib.hid hno
        have HBR := Lib.hid hb
        obtain ⟨c0, c1, c2⟩ := HK.out _ hb
        clear HST hno hb
        by_cases hgo : commit < k ∧ bs < k
        · obtain ⟨h1, h2⟩ := hgo
          have HWR : Hid (Below w.heap.size w wr) := Lib.hid (below_step HB.out HB.out.size HBR.out)
          have HT := Lib.hid (HTO.out wr HWR.out k)
          obtain ⟨av, hav⟩ : ∃ av, atV v k = av := ⟨_, rfl⟩
          have HAV := Lib.hid hav
          clear hav
          go_upto_region 5 with (fail)
          go_cut [35] from 30 to 34 (fun s35 wc => s35 = .bool true ∧ wr = wc)
          case first =>
            go_wp2_with fail
            go_meet
            case rel => exact ⟨by rw [decide_eq_true (by omega)], rfl⟩
          case rest =>
            obtain ⟨rfl, rfl⟩ := hcut
            go_upto_region 8 with (first
              | (go_at_call 40; refine HT.out.mono ?_; rintro e w5 ⟨ra, re, rfl, hb5, _, h5⟩; obtain ⟨rfl, rfl⟩ := (h5 HRR.out).2.2 (by rw [HBSE.out]; omega) (by rw [HLVE.out]; omega); rw [HAV.out]; have HB5 := Lib.hid (below_step HBR.out HBR.out.size hb5); clear hb5 h5)
              | fail)
            by_cases heq : av = term
            · subst heq
              go_wp2_with fail
              go_ret
              refine ⟨k, rfl, .inr ⟨HRR.out, .inl ⟨k, h1, by rw [HBSE.out]; exact h2, hk1, by rw [HLVE.out]; exact hk2, HAV.out, fun m a b c => ?_, rfl⟩⟩, below_step HB.out HB.out.size HB5.out⟩
              exact HNO.out m a b (by rw [HLVE.out] at c; exact c) (by omega) (by omega)
            · have heq' : (av == term) = false := by simpa using heq
              have e1 : IntKind.i64.wrap (k - 1) = k - 1 := IntWalk.i64_in _ (by omega)
              have HNX : Hid (∀ m, k - 1 < m → m ≤ nv → m ≤ lv → commit < m → bs < m → atV v m ≠ term) := Lib.hid (fun m a b c d e => by
                rcases Int.lt_or_le k m with h9 | h9
                · exact HNO.out m h9 b c d e
                · obtain rfl : m = k := by omega
                  rw [HAV.out]
                  exact heq)
              go_wp2_with fail
              go_roundw
              case rel => exact ⟨k - 1, rfl, by omega, by omega, HNX.out, HB5.out⟩
              case measure => simp [intOf] <;> omega
        · have HEND : Hid (CommitIs v nv commit term commit) := Lib.hid (.inr ⟨HRR.out, .inr ⟨fun m a b c d => HNO.out m (by rw [HBSE.out] at b; omega) c (by rw [HLVE.out] at d; exact d) a (by rw [HBSE.out] at b; exact b), rfl⟩⟩)
          go_upto_region 5 with (fail)
          go_cut [35] from 30 to 34 (fun s35 wc => s35 = .bool false ∧ wr = wc)
          case first =>
            go_wp2_with fail
            go_meet
            case rel => exact ⟨by rw [decide_eq_false (by omega)], rfl⟩
          case rest =>
            obtain ⟨rfl, rfl⟩ := hcut
            go_wp2_with fail
            go_ret
            exact ⟨commit, rfl, HEND.out, below_step HB.out HB.out.size HBR.out⟩
end Go.Proofs.YtoongmoajnedlaaGreat
