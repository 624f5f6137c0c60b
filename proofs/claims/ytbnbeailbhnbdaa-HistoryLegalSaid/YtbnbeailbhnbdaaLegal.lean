/-
  HistoryLegal: the walk.
-/
import Derived.Test.YtbnbeailbhnbdaaLegR
import Derived.Test.YtbnbeailbhnbdaaLegS
import Derived.Test.YtbnbeailbhnbdaaOrdR
import Derived.Test.YtbnbeailbhnbdaaOrdE
set_option linter.unusedVariables false
set_option linter.unusedSimpArgs false
namespace Go.Proofs.Ytbnbeailbhnbdaa
open Go.RowKit

set_option maxHeartbeats 8000000 in
theorem legallaw_any (A O : Option Addr) (xs : List Full) (os : List Int) (n c m oc : Nat) (w : World) (h : SeenC w A xs) (hn : xs.length = n) (hn2 : n * 128 ≤ 140737488351232) (hs : Small xs) (hO : Sees w O (os.map i64v)) (hm : os.length = m) (hm2 : m * 8 ≤ 140737488351232) :
    Calls Try.prog 8 #[.slice A n c, .slice O m oc] w (RetBool w true) := by
  have HOWN := Lib.hid (own_any A xs n c w h hn hn2 hs)
  have H := Lib.hid h
  have HN := Lib.hid hn
  have HS := Lib.hid hs
  have HO := Lib.hid hO
  have HM := Lib.hid hm
  clear h hn hs hO hm
  go_enter Try.func8, Try.ntmps8
  go_upto_region 2 with (first
    | (go_at_call 22; refine HOWN.out.mono ?_; rintro e w1 ⟨A1, c1, gc, ys, rfl, hl1, hsm, hf1, hg1, hb1⟩; rw [HN.out]; have HL1 := Lib.hid hl1; have HSM := Lib.hid hsm; have HB1 := Lib.hid hb1; rw [HN.out] at hf1; have HF1 := Lib.hid hf1; have HG1 := Lib.hid hg1; clear hl1 hsm hf1 hg1 hb1)
    | fail)
  have hs1 := same_all (xs := xs) HL1.out (fun k hk => SameF.at HSM.out HL1.out hk)
  have HSA := Lib.hid hs1
  have HDY : Hid (∀ y ∈ ys, y.2.1.length ≤ 140737488355328) := Lib.hid (same_data HSM.out HL1.out HS.out)
  have HF := Lib.hid (fun (W : World) (hb : Below w1.heap.size w1 W) => HF1.out.below hb)
  clear hs1
  go_upto_region 3 with (first
    | (at_builtin; refine wpList_append_sees rfl (.tmp 18) (.tmp 19) 41 rfl w1.heap.size 3 (.int .i64 0) 1 8 Try.underlying41 infoIntD rfl (by decide) (.slice (some ⟨w1.heap.size, 0, none⟩) 0 0) 0 [] rfl (own_made0 w1 _ 1) O m oc (os.map i64v) rfl (by rw [List.length_map, HM.out, Nat.mul_one]) ((HO.out.below HB1.out).below ((Below.refl _ _).alloc (Nat.le_refl _) _)) (one_ints _) (by simp only [maxLen]; omega) (by omega) (by simp) ?_; intro A2 c2 w2 hown2 hg2 hat2; have hb2 : Below w1.heap.size w1 w2 := below_grown_own ((Below.refl _ _).alloc (Nat.le_refl _) _) (by simp) (own_made0 w1 _ 1) (Nat.le_refl _) hg2; rw [Nat.zero_add]; rw [Nat.zero_add, List.nil_append] at hown2; have HLG := Lib.hid (legal_any (cp := c1) (oc := c2) w2 (HF.out _ hb2) (Nat.le_trans HG1.out hb2.size) (by omega) (sees_own' hown2).2.2.2 HM.out (by omega) HDY.out); have HB2 := Lib.hid hb2; clear hown2 hg2 hat2 hb2)
    | (go_at_call 21; refine HLG.out.mono ?_; rintro e w3 ⟨la, le, rfl, hlg, hb3⟩; have HLI := Lib.hid (hlg.same HL1.out HSA.out); have HB3 := Lib.hid (below_step HB2.out HB2.out.size hb3); clear hlg hb3)
    | fail)
  have HBW3 : Hid (Below w.heap.size w w3) := Lib.hid (below_step HB1.out HB1.out.size HB3.out)
  have HRL := Lib.hid (reflegal_any A O xs os n c m oc w3 (H.out.below HBW3.out) HN.out (by omega) HS.out (HO.out.below HBW3.out) HM.out (by omega))
  go_upto_region 4 with (first
    | (go_at_call 25; refine HRL.out.mono ?_; rintro e w4 ⟨ra, re, rfl, hlg, hb4⟩; have HRI := Lib.hid hlg; have HB4 := Lib.hid hb4; clear hlg hb4)
    | fail)
  obtain ⟨rfl, rfl⟩ := HLI.out.one HRI.out
  have HB14 : Hid (Below w1.heap.size w1 w4) := Lib.hid (below_step HB3.out HB3.out.size HB4.out)
  have hf4 := HF.out _ HB14.out
  have HOY := Lib.hid (order_any (gc := gc) (n := n) (cp := c1) (A := A1) w4 (by rw [cvs_length, HL1.out]; exact HN.out) (by omega) hf4.1.2.1 hf4.1.2.2.1 (Nat.le_trans HG1.out HB14.out.size))
  clear hf4
  go_upto_region 5 with (first
    | (go_at_call 26; refine HOY.out.mono ?_; rintro e w5 ⟨A5, m5, c5, rfl, hm5, hs5, hb5⟩; have HLG5 := Lib.hid (legal_any (cp := c1) (oc := c5) w5 (HF.out _ (below_step HB14.out HB14.out.size hb5)) (Nat.le_trans HG1.out (Nat.le_trans HB14.out.size hb5.size)) (by omega) hs5 hm5.symm (by have := ordL_length (cvs ys) n; omega) HDY.out); have HB5 := Lib.hid (below_step HB14.out HB14.out.size hb5); clear hm5 hs5 hb5)
    | (have hx := HLG5; go_at_call 21; refine HLG5.out.mono ?_; rintro e w6 ⟨pa, pe, rfl, hlg, hb6⟩; rw [same_ordL HSA.out] at hlg; have HLI6 := Lib.hid (hlg.same HL1.out HSA.out); have HB6 := Lib.hid (below_step HB5.out HB5.out.size hb6); clear hlg hb6)
    | fail)
  have HBW6 : Hid (Below w.heap.size w w6) := Lib.hid (below_step HB1.out HB1.out.size HB6.out)
  have HRO := Lib.hid (reforder_any A xs n c w6 (H.out.below HBW6.out) HN.out (by omega))
  go_upto_region 6 with (first
    | (go_at_call 27; refine HRO.out.mono ?_; rintro e w7 ⟨A7, m7, c7, rfl, hm7, hs7, hb7⟩; have HBW7 := Lib.hid (below_step HBW6.out HBW6.out.size hb7); have HRL7 := Lib.hid (reflegal_any A A7 xs (ordL (cvs xs) n) n c m7 c7 w7 (H.out.below HBW7.out) HN.out (by omega) HS.out hs7 hm7.symm (by have := ordL_length (cvs xs) n; omega)); clear hm7 hs7 hb7)
    | (have hx := HRL7; go_at_call 25; refine HRL7.out.mono ?_; rintro e w8 ⟨qa, qe, rfl, hlg, hb8⟩; have HRI8 := Lib.hid hlg; have HBW8 := Lib.hid (below_step HBW7.out HBW7.out.size hb8); clear hlg hb8)
    | fail)
  obtain ⟨rfl, rfl⟩ := HLI6.out.one HRI8.out
  go_wp2_with (first
    | (go_at_call 23; refine (num_any _ _).mono ?_; rintro e w9 ⟨rfl, rfl⟩)
    | (go_at_call 10; refine (knows_any _).mono ?_; rintro e w10 ⟨rfl, hb10⟩; have HB10 := Lib.hid (below_step HBW8.out HBW8.out.size hb10); clear hb10)
    | fail)
  go_ret
  exact ⟨rfl, HB10.out⟩
end Go.Proofs.Ytbnbeailbhnbdaa
