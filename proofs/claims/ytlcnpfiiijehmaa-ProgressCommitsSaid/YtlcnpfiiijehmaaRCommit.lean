/-
  The reference's Commit (hustingsref13).
-/
import Derived.Test.YtlcnpfiiijehmaaRView
import Derived.Test.YtlcnpfiiijehmaaCommit
set_option linter.unusedVariables false
set_option linter.unusedSimpArgs false
namespace Go.Proofs.Ytlcnpfiiijehmaa
open Go.RowKit

theorem rowB_index : ∀ {l : List Ent} {i t : Int}, rowB i t l = true → ∀ (k : Nat) (x : Ent), l[k]? = some x → rightE x = true ∧ x.index = i + 1 + (k : Int)
  | [], _, _, _, k, x, h => by simp at h
  | y :: r, i, t, hr, k, x, h => by
    simp only [rowB, Bool.and_eq_true, beq_iff_eq, decide_eq_true_eq] at hr
    obtain ⟨⟨⟨h1, h2⟩, h3⟩, h4⟩ := hr
    cases k with
    | zero =>
      rw [List.getElem?_cons_zero] at h
      cases h
      exact ⟨h1, by rw [h2]; simp⟩
    | succ k =>
      rw [List.getElem?_cons_succ] at h
      obtain ⟨h5, h6⟩ := rowB_index h4 k x h
      exact ⟨h5, by rw [h6]; omega⟩
/-- What is best so far. -/
def BestI (v : Vw) (nth commit term : Int) (k : Nat) (b : Int) : Prop :=
  (b = commit ∧ ∀ m, commit < m → v.base < m → m ≤ nth → m ≤ v.base + (k : Int) → atV v m ≠ term) ∨ (commit < b ∧ v.base < b ∧ b ≤ nth ∧ b ≤ v.base + (k : Int) ∧ atV v b = term ∧ ∀ m, b < m → m ≤ nth → m ≤ v.base + (k : Int) → atV v m ≠ term)
theorem BestI.zero (v : Vw) (nth commit term : Int) : BestI v nth commit term 0 commit := .inl ⟨rfl, fun m a b c d => by simp at d; omega⟩
theorem BestI.done {v : Vw} {nth commit term b : Int} {k : Nat} (h : BestI v nth commit term k b) (hr : rightV v = true) (hk : lastV v = v.base + (k : Int)) : CommitIs v nth commit term b := by
  rcases h with ⟨rfl, h⟩ | ⟨h1, h2, h3, h4, h5, h6⟩
  · exact .inr ⟨hr, .inr ⟨fun m a b c d => h m a b c (by omega), rfl⟩⟩
  · exact .inr ⟨hr, .inl ⟨b, h1, h2, h3, by omega, h5, fun m a c d => h6 m a c (by omega), rfl⟩⟩
theorem BestI.take {v : Vw} {nth commit term b : Int} {k : Nat} (h : BestI v nth commit term k b) (h1 : b < v.base + 1 + (k : Int)) (h2 : v.base + 1 + (k : Int) ≤ nth) (h3 : atV v (v.base + 1 + (k : Int)) = term) : BestI v nth commit term (k + 1) (v.base + 1 + (k : Int)) := by
  refine .inr ⟨?_, by omega, h2, by omega, h3, fun m a c d => by omega⟩
  rcases h with ⟨rfl, _⟩ | ⟨h4, _⟩
  · exact h1
  · omega
theorem BestI.skip {v : Vw} {nth commit term b : Int} {k : Nat} (h : BestI v nth commit term k b) (hn : ¬ (b < v.base + 1 + (k : Int) ∧ v.base + 1 + (k : Int) ≤ nth ∧ atV v (v.base + 1 + (k : Int)) = term)) : BestI v nth commit term (k + 1) b := by
  have key : ∀ m, b < m → m ≤ nth → m ≤ v.base + ((k + 1 : Nat) : Int) → (m ≤ v.base + (k : Int) → atV v m ≠ term) → atV v m ≠ term := by
    intro m a c d e
    by_cases h9 : m ≤ v.base + (k : Int)
    · exact e h9
    · obtain rfl : m = v.base + 1 + (k : Int) := by omega
      exact fun h8 => hn ⟨a, c, h8⟩
  rcases h with ⟨rfl, h⟩ | ⟨h1, h2, h3, h4, h5, h6⟩
  · exact .inl ⟨rfl, fun m a c d e => key m a d e (fun f => h m a c d f)⟩
  · exact .inr ⟨h1, h2, h3, by omega, h5, fun m a c d => key m a c d (fun f => h6 m a c f)⟩
set_option maxRecDepth 16384 in
set_option maxHeartbeats 8000000 in
theorem rcommit_any (v : Vw) (A : Option Addr) (n c : Nat) (S M : Option Addr) (ns cs cm : Nat) (of : List Int) (commit term : Int) (w : World) (hn : v.l.length = n) (hn2 : n ≤ 140737488355328) (h : SeenE w A v.l) (hs : SmallE v.l)
    (hns : ns * 8 ≤ 140737488355328) (hof : of.length ≤ cm) (hol : of.length ≤ 140737488355328) (hM : Sees w M (of.map i64v)) :
    Calls Try.prog 10 #[v.val (.slice A n c), .slice S ns cs, .slice M of.length cm, .int .i64 commit, .int .i64 term] w (RetCommit v (nthV ns of) commit term w) := by
  obtain ⟨W, hW⟩ : ∃ W, w.alloc (.cells #[.int .i64 v.base, .int .i64 v.term, .slice A n c] 24) = W := ⟨_, rfl⟩
  have hb : Below w.heap.size w W := by rw [← hW]; exact (Below.refl _ _).alloc (Nat.le_refl _) _
  have k0 : W.cell? ⟨w.heap.size, 0, none⟩ = some (.int .i64 v.base) := by rw [← hW]; simp
  have k1 : W.cell? ⟨w.heap.size, 1, none⟩ = some (.int .i64 v.term) := by rw [← hW]; simp
  have k2 : W.cell? ⟨w.heap.size, 2, none⟩ = some (.slice A n c) := by rw [← hW]; simp
  obtain ⟨r, hr⟩ : ∃ r, rightV v = r := ⟨_, rfl⟩
  have HRT := Lib.hid (fun W' (hb' : Below w.heap.size w W') => rrightv_any v A n c W' hn hn2 (h.below hb') hs)
  rw [hr] at HRT
  have HW := Lib.hid hW
  have HB := Lib.hid hb
  have HRR := Lib.hid hr
  obtain ⟨gb, hgb⟩ : ∃ gb, w.heap.size = gb := ⟨_, rfl⟩
  rw [hgb] at k0 k1 k2
  have HGB := Lib.hid hgb
  have H := Lib.hid h
  have HN := Lib.hid hn
  have HLS := Lib.hid (fun W' (hb' : Below w.heap.size w W') => rlastof_any v A n c W' hn hn2 (h.below hb') hs)
  have HNT := Lib.hid (fun W' (hb' : Below w.heap.size w W') => refnth_any S M ns of cs cm W' hof hns hol (hM.below hb'))
  obtain ⟨nv, hnv⟩ : ∃ nv, nthV ns of = nv := ⟨_, rfl⟩
  rw [hnv] at HNT ⊢
  obtain ⟨mo, hmo⟩ : ∃ mo, of.length = mo := ⟨_, rfl⟩
  rw [hmo] at HNT ⊢
  unfold Vw.val at HRT HLS ⊢
  have HK : Hid (∀ W', Below W.heap.size W W' → W'.cell? ⟨gb, 0, none⟩ = some (.int .i64 v.base) ∧ W'.cell? ⟨gb, 1, none⟩ = some (.int .i64 v.term) ∧ W'.cell? ⟨gb, 2, none⟩ = some (.slice A n c)) := Lib.hid (fun W' hb' => ⟨(hb'.cell (World.block_lt_of_cell? _ _ k0)).trans k0, (hb'.cell (World.block_lt_of_cell? _ _ k1)).trans k1, (hb'.cell (World.block_lt_of_cell? _ _ k2)).trans k2⟩)
  clear hW hb h hn hs hr hgb hM hof hol hmo hnv
  go_enter Try.func10, Try.ntmps10
  go_upto_region 1 with fail
  rw [HW.out]
  try rw [HGB.out]
  cases r with
  | false =>
    go_wp2_with (first
      | (go_at_call 28; refine (HLS.out _ HB.out).mono ?_; rintro e w3 ⟨rfl, hb3⟩; rw [HRR.out, if_neg (by decide), if_neg (by decide)]; have HB3 := Lib.hid hb3; obtain ⟨c0, c1, c2⟩ := HK.out _ hb3; clear hb3)
      | (go_at_call 29; refine (HRT.out _ (below_step HB.out HB.out.size HB3.out)).mono ?_; rintro e w2 ⟨rfl, hb2⟩; have HB2 := Lib.hid (below_step HB3.out HB3.out.size hb2); clear hb2)
      | fail)
    go_ret
    exact ⟨commit, rfl, .inl ⟨HRR.out, rfl⟩, below_step HB.out HB.out.size HB2.out⟩
  | true =>
    obtain ⟨b1, b2, t1, t2, n1, hrow⟩ := rightV_iff.1 HRR.out
    rw [HN.out] at n1
    have HLV : Hid (lastV v = v.base + (n : Int)) := Lib.hid (by unfold lastV; rw [HN.out])
    obtain ⟨lv, hlv⟩ : ∃ lv, lastV v = lv := ⟨_, rfl⟩
    have HLVE := Lib.hid hlv
    obtain ⟨bs, hbs⟩ : ∃ bs, v.base = bs := ⟨_, rfl⟩
    have HBSE := Lib.hid hbs
    have hlv3 : lv = bs + (n : Int) := by rw [← hlv, HLV.out, hbs]
    have HLV3 := Lib.hid hlv3
    have HROW := Lib.hid hrow
    rw [hbs] at b1 b2 k0 HK HRT HLS ⊢
    clear t1 t2 hrow hlv hbs hlv3
    go_upto_region 7 with (first
      | (go_at_call 28; refine (HLS.out _ HB.out).mono ?_; rintro e w3 ⟨rfl, hb3⟩; rw [HRR.out, if_pos rfl, if_pos rfl, HLVE.out]; have HB3 := Lib.hid hb3; obtain ⟨c0, c1, c2⟩ := HK.out _ hb3; clear hb3)
      | (go_at_call 29; refine (HRT.out _ (below_step HB.out HB.out.size HB3.out)).mono ?_; rintro e w2 ⟨rfl, hb2⟩; have HB2 := Lib.hid (below_step HB3.out HB3.out.size hb2); clear hb2)
      | (go_at_call 30; refine (HNT.out _ (below_step HB.out HB.out.size HB2.out)).mono ?_; rintro e w4 ⟨rfl, rfl⟩)
      | fail)
    have HST : Hid (∃ (k : Nat) (b x : Value) (bv : Int), Value.int .i64 0 = .int .i64 (k : Int) ∧ Value.int .i64 commit = .int .i64 bv ∧ k ≤ n ∧ BestI v nv commit term k bv ∧ Below W.heap.size W w2) := Lib.hid ⟨0, undef, undef, commit, rfl, rfl, Nat.zero_le _, BestI.zero _ _ _ _, HB2.out⟩
    clear c0 c1 c2 k0 k1 k2
    go_wp2_with fail
    go_loopw [13, 15] (fun s13 s15 wr => ∃ (k : Nat) (bv : Int), s15 = .int .i64 (k : Int) ∧ s13 = .int .i64 bv ∧ k ≤ n ∧ BestI v nv commit term k bv ∧ Below W.heap.size W wr) (fun _ s15 _ => n - (intOf s15).toNat)
    case atStart =>
      obtain ⟨k, _, _, bv, e1, e2, e3, e4, e5⟩ := HST.out
      exact ⟨k, bv, e1, e2, e3, e4, e5⟩
    case round =>
      obtain ⟨k, bv, rfl, rfl, hk, hbi, hb⟩ := hrel
      have HBI := Lib.hid hbi
      have HBR := Lib.hid hb
      obtain ⟨c0, c1, c2⟩ := HK.out _ hb
      clear HST hbi hb
      by_cases hlt : k < n
      · have hki : (k : Int) < (n : Int) := by omega
        have hkl : k < v.l.length := by rw [HN.out]; exact hlt
        obtain ⟨x, hx⟩ : ∃ x, v.l[k] = x := ⟨_, rfl⟩
        have hget : v.l[k]? = some x := by rw [List.getElem?_eq_getElem hkl, hx]
        obtain ⟨hre, hix⟩ := rowB_index HROW.out k x hget
        rw [HBSE.out] at hix
        have HATV : Hid (atV v (bs + 1 + (k : Int)) = x.term) := Lib.hid (by
          unfold atV
          rw [if_neg (by rw [HBSE.out]; omega), HBSE.out, show (bs + 1 + (k : Int) - bs - 1).toNat = k from by omega, List.getD_eq_getElem?_getD, hget]
          rfl)
        obtain ⟨ad, A1, cc1, rfl, hcs, _, _⟩ := (H.out.below (below_step HB.out HB.out.size HBR.out)).at hget
        have a0 := hcs 0 _ rfl
        have a1 := hcs 1 _ rfl
        rw [add_zero'] at a0
        rw [add_pos _ 1 (by decide)] at a1
        obtain ⟨xt, hxt⟩ : ∃ xt, x.term = xt := ⟨_, rfl⟩
        rw [hix] at a1
        rw [hxt] at a0 HATV
        obtain ⟨m, hm⟩ : ∃ m, bs + 1 + (k : Int) = m := ⟨_, rfl⟩
        rw [hm] at a1 HATV
        have HM := Lib.hid hm
        have hml : m ≤ lv := by have := HLV3.out; omega
        clear hcs hx hget hre hix hxt hkl hm
        have HSK : Hid (¬ (bv < m ∧ m ≤ nv ∧ xt = term) → BestI v nv commit term (k + 1) bv) := Lib.hid (fun hne => HBI.out.skip (by
          rw [HBSE.out, HM.out, HATV.out]
          exact hne))
        have HTK : Hid (bv < m → m ≤ nv → xt = term → BestI v nv commit term (k + 1) m) := Lib.hid (fun h1 h2 h3 => by
          have h9 := HBI.out.take (by rw [HBSE.out, HM.out]; exact h1) (by rw [HBSE.out, HM.out]; exact h2) (by rw [HBSE.out, HM.out, HATV.out]; exact h3)
          rw [HBSE.out, HM.out] at h9
          exact h9)
        by_cases g1 : bv < m
        · by_cases g2 : m ≤ nv
          · by_cases g3 : xt = term
            · subst g3
              go_wp2_with fail
              go_roundw
              case rel => exact ⟨k + 1, m, by go_num, rfl, hlt, HTK.out g1 g2 rfl, HBR.out⟩
              case measure => simp [intOf] <;> omega
            · have g3' : (xt == term) = false := by simpa using g3
              go_wp2_with fail
              go_roundw
              case rel => exact ⟨k + 1, bv, by go_num, rfl, hlt, HSK.out (fun h => g3 h.2.2), HBR.out⟩
              case measure => simp [intOf] <;> omega
          · go_wp2_with fail
            go_roundw
            case rel => exact ⟨k + 1, bv, by go_num, rfl, hlt, HSK.out (fun h => g2 h.2.1), HBR.out⟩
            case measure => simp [intOf] <;> omega
        · go_wp2_with fail
          go_roundw
          case rel => exact ⟨k + 1, bv, by go_num, rfl, hlt, HSK.out (fun h => g1 h.1), HBR.out⟩
          case measure => simp [intOf] <;> omega
      · obtain rfl : k = n := by omega
        have hki : ¬ (k : Int) < (k : Int) := by omega
        go_wp2_with fail
        go_ret
        exact ⟨bv, rfl, HBI.out.done HRR.out (by rw [HLVE.out, HBSE.out]; exact HLV3.out), below_step HB.out HB.out.size HBR.out⟩
end Go.Proofs.Ytlcnpfiiijehmaa
