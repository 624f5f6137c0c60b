/-
  Layer 11: Beside, the program's; Change and Beside, the reference's.
-/
import Derived.Test.YtopcgnilajmnhaaConfP
set_option linter.unusedVariables false
set_option linter.unusedSimpArgs false
namespace Go.Proofs.Ytopcgnilajmnhaa
open Go.RowKit

set_option maxHeartbeats 1000000 in
theorem beside_any (A B : Option Addr) (is js : List Int) (c d : Nat) (w : World) (hc : is.length ≤ c) (hd : js.length ≤ d) (hl : is.length ≤ 140737488355328) (hl2 : js.length ≤ 140737488355328) (hA : Sees w A (is.map i64v)) (hB : Sees w B (js.map i64v)) :
    Calls Try.prog 10 #[.slice A is.length c, .slice B js.length d] w (RetBool w (besideB is js)) := by
  have HA := Lib.hid hA
  have HB := Lib.hid hB
  have hrf := Below.refl w.heap.size w
  clear hA hB
  cases hr : rightB is with
  | false =>
    have HRa := Lib.hid hr
    have HE : Hid (besideB is js = false) := Lib.hid (by unfold besideB; rw [hr]; rfl)
    clear hr
    go_enter Try.func10, Try.ntmps10
    go_wp2_with (first
      | (go_at_call 16; refine (right_any A is c _ hc (by omega) (HA.out.below hrf)).mono ?_; rintro e w1 ⟨rfl, hw1⟩; rw [HRa.out]; have hb1 := below_step hrf (Below.size hrf) (below_of_drew hw1); clear hw1)
      | fail)
    go_ret
    exact ⟨by rw [HE.out]; rfl, hb1⟩
  | true =>
    cases hs : rightB js with
    | false =>
      have HRa := Lib.hid hr
      have HRb := Lib.hid hs
      have HE : Hid (besideB is js = false) := Lib.hid (by unfold besideB; rw [hr, hs]; rfl)
      clear hr hs
      go_enter Try.func10, Try.ntmps10
      go_wp2_with fail
      refine (right_any A is c _ hc (by omega) HA.out).mono ?_
      rintro e w1 ⟨rfl, hw1⟩
      rw [HRa.out]
      have hb1 := below_of_drew hw1
      clear hw1
      go_wp2_with fail
      refine (right_any B js d _ hd (by omega) (HB.out.below hb1)).mono ?_
      rintro e w2 ⟨rfl, hw2⟩
      rw [HRb.out]
      have hb2 := below_step hb1 hb1.size (below_of_drew hw2)
      clear hw2
      go_wp2_with fail
      go_ret
      exact ⟨by rw [HE.out]; rfl, hb2⟩
    | true =>
      have HRa := Lib.hid hr
      have HRb := Lib.hid hs
      have HPa := Lib.hid (rightP_of hr)
      have HPb := Lib.hid (rightP_of hs)
      have HE : Hid (besideB is js = if js.length < is.length then nearB js is else nearB is js) := Lib.hid (by unfold besideB; rw [hr, hs]; rfl)
      clear hr hs
      by_cases hlt : js.length < is.length
      · have hlt1 : (js.length : Int) < (is.length : Int) := by omega
        by_cases hn : commonN js is = js.length
        · have hn1 : ((commonN js is : Int) == (js.length : Int)) = true := by simp [hn]
          by_cases hm : is.length ≤ js.length + 1
          · have hm1 : (is.length : Int) ≤ (js.length : Int) + 1 := by omega
            have HV : Hid (besideB is js = true) := Lib.hid (by rw [HE.out]; simp only [hlt, if_true, if_false]; unfold nearB; simp [hn, hm])
            clear hn
            go_enter Try.func10, Try.ntmps10
            go_wp2_with fail
            refine (right_any A is c _ hc (by omega) HA.out).mono ?_
            rintro e w1 ⟨rfl, hw1⟩
            rw [HRa.out]
            have hb1 := below_of_drew hw1
            clear hw1
            go_wp2_with fail
            refine (right_any B js d _ hd (by omega) (HB.out.below hb1)).mono ?_
            rintro e w2 ⟨rfl, hw2⟩
            rw [HRb.out]
            have hb2 := below_step hb1 hb1.size (below_of_drew hw2)
            clear hw2
            go_wp2_with (first
              | (go_at_call 26; refine (count_any B A js is d c _ hd hc hl2 hl (HB.out.below hb2) (HA.out.below hb2) HPb.out.wf HPa.out.wf HPb.out.nodup).mono ?_; rintro e w3 ⟨rfl, hb3⟩)
              | fail)
            go_ret
            exact ⟨by rw [HV.out]; rfl, below_step hb2 hb2.size hb3⟩
          · have hm1 : ¬ (is.length : Int) ≤ (js.length : Int) + 1 := by omega
            have dm1 : decide ((is.length : Int) ≤ (js.length : Int) + 1) = false := decide_eq_false hm1
            have HV : Hid (besideB is js = false) := Lib.hid (by rw [HE.out]; simp only [hlt, if_true, if_false]; unfold nearB; simp [hm])
            clear hn
            go_enter Try.func10, Try.ntmps10
            go_wp2_with fail
            refine (right_any A is c _ hc (by omega) HA.out).mono ?_
            rintro e w1 ⟨rfl, hw1⟩
            rw [HRa.out]
            have hb1 := below_of_drew hw1
            clear hw1
            go_wp2_with fail
            refine (right_any B js d _ hd (by omega) (HB.out.below hb1)).mono ?_
            rintro e w2 ⟨rfl, hw2⟩
            rw [HRb.out]
            have hb2 := below_step hb1 hb1.size (below_of_drew hw2)
            clear hw2
            go_wp2_with (first
              | (go_at_call 26; refine (count_any B A js is d c _ hd hc hl2 hl (HB.out.below hb2) (HA.out.below hb2) HPb.out.wf HPa.out.wf HPb.out.nodup).mono ?_; rintro e w3 ⟨rfl, hb3⟩)
              | fail)
            go_ret
            exact ⟨by rw [HV.out]; rfl, below_step hb2 hb2.size hb3⟩
        · have hn1 : ((commonN js is : Int) == (js.length : Int)) = false := by simp; omega
          have HV : Hid (besideB is js = false) := Lib.hid (by rw [HE.out]; simp only [hlt, if_true, if_false]; unfold nearB; simp [hn])
          clear hn
          go_enter Try.func10, Try.ntmps10
          go_wp2_with fail
          refine (right_any A is c _ hc (by omega) HA.out).mono ?_
          rintro e w1 ⟨rfl, hw1⟩
          rw [HRa.out]
          have hb1 := below_of_drew hw1
          clear hw1
          go_wp2_with fail
          refine (right_any B js d _ hd (by omega) (HB.out.below hb1)).mono ?_
          rintro e w2 ⟨rfl, hw2⟩
          rw [HRb.out]
          have hb2 := below_step hb1 hb1.size (below_of_drew hw2)
          clear hw2
          go_wp2_with (first
            | (go_at_call 26; refine (count_any B A js is d c _ hd hc hl2 hl (HB.out.below hb2) (HA.out.below hb2) HPb.out.wf HPa.out.wf HPb.out.nodup).mono ?_; rintro e w3 ⟨rfl, hb3⟩)
            | fail)
          go_ret
          exact ⟨by rw [HV.out]; rfl, below_step hb2 hb2.size hb3⟩
      · have hlt1 : ¬ (js.length : Int) < (is.length : Int) := by omega
        by_cases hn : commonN is js = is.length
        · have hn1 : ((commonN is js : Int) == (is.length : Int)) = true := by simp [hn]
          by_cases hm : js.length ≤ is.length + 1
          · have hm1 : (js.length : Int) ≤ (is.length : Int) + 1 := by omega
            have HV : Hid (besideB is js = true) := Lib.hid (by rw [HE.out]; simp only [hlt, if_true, if_false]; unfold nearB; simp [hn, hm])
            clear hn
            go_enter Try.func10, Try.ntmps10
            go_wp2_with fail
            refine (right_any A is c _ hc (by omega) HA.out).mono ?_
            rintro e w1 ⟨rfl, hw1⟩
            rw [HRa.out]
            have hb1 := below_of_drew hw1
            clear hw1
            go_wp2_with fail
            refine (right_any B js d _ hd (by omega) (HB.out.below hb1)).mono ?_
            rintro e w2 ⟨rfl, hw2⟩
            rw [HRb.out]
            have hb2 := below_step hb1 hb1.size (below_of_drew hw2)
            clear hw2
            go_wp2_with (first
              | (go_at_call 26; refine (count_any A B is js c d _ hc hd hl hl2 (HA.out.below hb2) (HB.out.below hb2) HPa.out.wf HPb.out.wf HPa.out.nodup).mono ?_; rintro e w3 ⟨rfl, hb3⟩)
              | fail)
            go_ret
            exact ⟨by rw [HV.out]; rfl, below_step hb2 hb2.size hb3⟩
          · have hm1 : ¬ (js.length : Int) ≤ (is.length : Int) + 1 := by omega
            have dm1 : decide ((js.length : Int) ≤ (is.length : Int) + 1) = false := decide_eq_false hm1
            have HV : Hid (besideB is js = false) := Lib.hid (by rw [HE.out]; simp only [hlt, if_true, if_false]; unfold nearB; simp [hm])
            clear hn
            go_enter Try.func10, Try.ntmps10
            go_wp2_with fail
            refine (right_any A is c _ hc (by omega) HA.out).mono ?_
            rintro e w1 ⟨rfl, hw1⟩
            rw [HRa.out]
            have hb1 := below_of_drew hw1
            clear hw1
            go_wp2_with fail
            refine (right_any B js d _ hd (by omega) (HB.out.below hb1)).mono ?_
            rintro e w2 ⟨rfl, hw2⟩
            rw [HRb.out]
            have hb2 := below_step hb1 hb1.size (below_of_drew hw2)
            clear hw2
            go_wp2_with (first
              | (go_at_call 26; refine (count_any A B is js c d _ hc hd hl hl2 (HA.out.below hb2) (HB.out.below hb2) HPa.out.wf HPb.out.wf HPa.out.nodup).mono ?_; rintro e w3 ⟨rfl, hb3⟩)
              | fail)
            go_ret
            exact ⟨by rw [HV.out]; rfl, below_step hb2 hb2.size hb3⟩
        · have hn1 : ((commonN is js : Int) == (is.length : Int)) = false := by simp; omega
          have HV : Hid (besideB is js = false) := Lib.hid (by rw [HE.out]; simp only [hlt, if_true, if_false]; unfold nearB; simp [hn])
          clear hn
          go_enter Try.func10, Try.ntmps10
          go_wp2_with fail
          refine (right_any A is c _ hc (by omega) HA.out).mono ?_
          rintro e w1 ⟨rfl, hw1⟩
          rw [HRa.out]
          have hb1 := below_of_drew hw1
          clear hw1
          go_wp2_with fail
          refine (right_any B js d _ hd (by omega) (HB.out.below hb1)).mono ?_
          rintro e w2 ⟨rfl, hw2⟩
          rw [HRb.out]
          have hb2 := below_step hb1 hb1.size (below_of_drew hw2)
          clear hw2
          go_wp2_with (first
            | (go_at_call 26; refine (count_any A B is js c d _ hc hd hl hl2 (HA.out.below hb2) (HB.out.below hb2) HPa.out.wf HPb.out.wf HPa.out.nodup).mono ?_; rintro e w3 ⟨rfl, hb3⟩)
            | fail)
          go_ret
          exact ⟨by rw [HV.out]; rfl, below_step hb2 hb2.size hb3⟩
/-- The reference's list, as far as it has come. -/
def refP (l : List Int) (add : Bool) (id : Int) (i : Int) : Bool := (i == id && add) || (!(i == id) && hasB l i)
def refK (l : List Int) (add : Bool) (id : Int) (k : Nat) : List Int := ((List.range k).map fun (n : Nat) => Int.ofNat n).filter (refP l add id)
theorem refK_succ (l : List Int) (add : Bool) (id : Int) (k : Nat) : refK l add id (k + 1) = refK l add id k ++ if refP l add id (k : Int) = true then [(k : Int)] else [] := by
  unfold refK
  rw [List.range_succ, List.map_append, List.filter_append]
  congr 1
  simp only [List.map_cons, List.map_nil, List.filter_cons, List.filter_nil]
  rfl
theorem refK_len (l : List Int) (add : Bool) (id : Int) (k : Nat) : (refK l add id k).length ≤ k := by
  unfold refK
  exact Nat.le_trans (List.length_filter_le _ _) (by simp)
theorem refL_eq (l : List Int) (add : Bool) (id : Int) : refK l add id 16 = refL l add id := rfl
theorem refP_same {l : List Int} {add : Bool} {id : Int} : refP l add id id = add := by simp [refP]
theorem refP_other {l : List Int} {add : Bool} {id i : Int} (h : i ≠ id) : refP l add id i = hasB l i := by unfold refP; rw [beq_false_of_ne h]; simp
theorem ref_append {w W w2 : World} {base n c : Nat} {A A2 : Option Addr} {c2 : Nat} {xs : List Int} {x : Int} (hb : Below w.heap.size w W) (hown : W.ownsRow w.heap.size 3 1 (.slice A n c) n (xs.map i64v))
    (h2 : w2.ownsRow w.heap.size 3 1 (.slice A2 (n + 1) c2) (n + 1) (xs.map i64v ++ [.int .i64 x])) (hg : (W.alloc (.cells #[.int .i64 x] 3)).grownBy w2 (Value.slice A n c).ownBlock) :
    w2.ownsRow w.heap.size 3 1 (.slice A2 (n + 1) c2) (n + 1) ((xs ++ [x]).map i64v) ∧ Below w.heap.size w w2 := by
  have hal := hb.alloc hb.size (.cells #[.int .i64 x] 3)
  exact ⟨by rw [List.map_append]; exact h2, below_grown_own hal hal.size (own_alloc' hown _) (Nat.le_refl _) hg⟩
def refchangeL (l : List Int) (add : Bool) (id : Int) : List Int := if changeE l add id = 0 then refL l add id else []
theorem retList_errR {w w' : World} {l : List Int} {add : Bool} {id z : Int} (h : changeE l add id = z) (hz : z ≠ 0) (hb : Below w.heap.size w w') : RetList w (refchangeL l add id) (changeE l add id) (.returned (.tuple #[.slice none 0 0, .int .i64 z])) w' := by
  have : refchangeL l add id = [] := by unfold refchangeL; rw [if_neg (by rw [h]; exact hz)]
  rw [this, h]
  exact ⟨none, 0, rfl, ⟨rfl, .inl ⟨rfl, rfl⟩⟩, hb⟩
/-- Between two rounds of the reference's Change. -/
def RefLoop (w : World) (l : List Int) (add : Bool) (id : Int) (s8 s9 : Value) (wr : World) : Prop :=
  ∃ (k : Nat) (A : Option Addr) (c : Nat), s9 = .int .i64 (k : Int) ∧ k ≤ 16 ∧ s8 = .slice A (refK l add id k).length c ∧ wr.ownsRow w.heap.size 3 1 (.slice A (refK l add id k).length c) (refK l add id k).length ((refK l add id k).map i64v) ∧ Below w.heap.size w wr
set_option maxHeartbeats 2000000 in
theorem refchange_any (A : Option Addr) (is : List Int) (c : Nat) (add : Bool) (id : Int) (w : World) (hc : is.length ≤ c) (hl : is.length ≤ 140737488355328) (h : Sees w A (is.map i64v)) :
    Calls Try.prog 23 #[.slice A is.length c, .bool add, .int .i64 id] w (RetList w (refchangeL is add id) (changeE is add id)) := by
  have H := Lib.hid h
  clear h
  cases hr : rightB is with
  | false =>
    have HR := Lib.hid hr
    have HE : Hid (changeE is add id = 1) := Lib.hid (by unfold changeE; rw [if_pos (.inl hr)])
    clear hr
    go_enter Try.func23, Try.ntmps23
    go_wp2_with (first
      | (go_at_call 17; refine (refright11_any A is c _ hc (by omega) H.out).mono ?_; rintro e w1 ⟨rfl, hw1⟩; rw [HR.out]; have HB1 := Lib.hid (below_of_drew hw1); clear hw1)
      | fail
      | fail)
    go_ret2
    exact retList_errR HE.out (by decide) HB1.out
  | true =>
    have HR := Lib.hid hr
    by_cases h0 : id < 0
    · have HE : Hid (changeE is add id = 1) := Lib.hid (by unfold changeE; rw [if_pos (.inr (.inl h0))])
      clear hr
      go_enter Try.func23, Try.ntmps23
      go_wp2_with (first
        | (go_at_call 17; refine (refright11_any A is c _ hc (by omega) H.out).mono ?_; rintro e w1 ⟨rfl, hw1⟩; rw [HR.out]; have HB1 := Lib.hid (below_of_drew hw1); clear hw1)
        | fail
        | fail)
      go_ret2
      exact retList_errR HE.out (by decide) HB1.out
    by_cases h16 : 16 ≤ id
    · have HE : Hid (changeE is add id = 1) := Lib.hid (by unfold changeE; rw [if_pos (.inr (.inr h16))])
      clear hr
      go_enter Try.func23, Try.ntmps23
      go_wp2_with (first
        | (go_at_call 17; refine (refright11_any A is c _ hc (by omega) H.out).mono ?_; rintro e w1 ⟨rfl, hw1⟩; rw [HR.out]; have HB1 := Lib.hid (below_of_drew hw1); clear hw1)
        | fail
        | fail)
      go_ret2
      exact retList_errR HE.out (by decide) HB1.out
    have HE0 : Hid (changeE is add id = if add = hasB is id ∨ (add = true ∧ is.length = 7) ∨ (add = false ∧ is.length = 1) then 33 else 0) := Lib.hid (by unfold changeE; rw [if_neg]; rintro (h | h | h); exact absurd h (by rw [hr]; decide); exact h0 h; exact h16 h)
    have d0 : decide (id < 0) = false := by simpa using h0
    have d16 : decide (16 ≤ id) = false := by simpa using h16
    clear hr
    obtain ⟨hb, hhb⟩ : ∃ hb, hasB is id = hb := ⟨_, rfl⟩
    have HH := Lib.hid hhb
    rw [hhb] at HE0
    clear hhb
    cases add
    case true =>
      cases hb with
      | true =>
        have HE : Hid (changeE is true id = 33) := Lib.hid (by rw [HE0.out, if_pos (.inl rfl)])
        go_enter Try.func23, Try.ntmps23
        go_wp2_with (first
          | (go_at_call 17; refine (refright11_any A is c _ hc (by omega) H.out).mono ?_; rintro e w1 ⟨rfl, hw1⟩; rw [HR.out]; have HB1 := Lib.hid (below_of_drew hw1); clear hw1)
          | (go_at_call 19; refine (refhas_any A is c id _ hc (by omega) (H.out.below HB1.out)).mono ?_; rintro e w' ⟨rfl, rfl⟩; rw [HH.out])
          | fail)
        go_ret2
        exact retList_errR HE.out (by decide) HB1.out
      | false =>
        by_cases hn : is.length = 7
        · have HE : Hid (changeE is true id = 33) := Lib.hid (by rw [HE0.out, if_pos (by simp [hn])])
          have hn1 : ((is.length : Int) == 7) = true := by simp; omega
          clear hn
          go_enter Try.func23, Try.ntmps23
          go_wp2_with (first
            | (go_at_call 17; refine (refright11_any A is c _ hc (by omega) H.out).mono ?_; rintro e w1 ⟨rfl, hw1⟩; rw [HR.out]; have HB1 := Lib.hid (below_of_drew hw1); clear hw1)
            | (go_at_call 19; refine (refhas_any A is c id _ hc (by omega) (H.out.below HB1.out)).mono ?_; rintro e w' ⟨rfl, rfl⟩; rw [HH.out])
            | fail)
          go_ret2
          exact retList_errR HE.out (by decide) HB1.out
        · have HE : Hid (changeE is true id = 0) := Lib.hid (by rw [HE0.out, if_neg (by simp [hn])])
          have hn1 : ((is.length : Int) == 7) = false := by simp; omega
          clear hn
          go_enter Try.func23, Try.ntmps23
          go_wp2_with (first
            | (go_at_call 17; refine (refright11_any A is c _ hc (by omega) H.out).mono ?_; rintro e w1 ⟨rfl, hw1⟩; rw [HR.out]; have HB1 := Lib.hid (below_of_drew hw1); clear hw1)
            | (go_at_call 19; refine (refhas_any A is c id _ hc (by omega) (H.out.below HB1.out)).mono ?_; rintro e w' ⟨rfl, rfl⟩; rw [HH.out])
            | fail)
          go_loopw [8, 9] (fun s8 s9 wr => RefLoop w is true id s8 s9 wr) (fun _ s9 _ => 16 - (intOf s9).toNat)
          case atStart => exact ⟨0, none, 0, rfl, by omega, rfl, ⟨rfl, .inl ⟨rfl, rfl⟩⟩, HB1.out⟩
          case round =>
            obtain ⟨k, A1, c1, rfl, hk, rfl, hown, hbw⟩ := hrel
            have HOW := Lib.hid hown
            have HBW := Lib.hid hbw
            have HSU := Lib.hid (refK_succ is true id k)
            have hln := refK_len is true id k
            obtain ⟨xs, hxs⟩ : ∃ xs, refK is true id k = xs := ⟨_, rfl⟩
            have HXS := Lib.hid hxs
            rw [hxs] at HOW HSU hln
            rw [hxs]
            have hcap := (sees_own' HOW.out).2.1
            clear hown hbw hxs
            by_cases hlt : k < 16
            · have hki : (k : Int) < 16 := by omega
              have hk0 : (0 : Int) ≤ (k : Int) := by omega
              by_cases hid : (k : Int) = id
              · have e1 : ((k : Int) == id) = true := by simp [hid]
                have e2 : ((k : Int) != id) = false := by simp [hid]
                have HPk : Hid (refP is true id (k : Int) = true) := Lib.hid (by rw [hid]; exact refP_same)
                clear hid
                go_wp2_with (first
                  | fail
                  | (at_builtin; refine wpList_append_sees rfl (.tmp 63) (.tmp 65) 22 rfl w.heap.size 3 (.int .i64 0) 1 8 Try.underlying22 infoInt rfl (by decide) (.slice A1 xs.length c1) xs.length (xs.map i64v) rfl (own_alloc' HOW.out _) (some ⟨wr.heap.size, 0, none⟩) 1 1 [.int .i64 (k : Int)] rfl rfl (sees_new wr #[.int .i64 (k : Int)] 3) (by simp [Value.oneCell']) (by simp only [maxLen]; omega) (by omega) (by have := HBW.out.size; simp; omega) ?_; intro A2 c2 w2 hown2 hg2 hat2; have hap := ref_append (base := 0) HBW.out HOW.out hown2 hg2; have HAP := Lib.hid hap; clear hown2 hg2 hat2 hap)
                  | fail)
                go_roundw
                case rel =>
                  have hsu := HSU.out
                  rw [HPk.out, if_pos rfl] at hsu
                  have hle : (xs ++ [(k : Int)]).length = xs.length + 1 := by simp
                  exact ⟨k + 1, A2, c2, by go_num, by omega, by rw [hsu, hle], by rw [hsu, hle]; exact HAP.out.1, HAP.out.2⟩
                case measure => simp [intOf]; omega
              · have e1 : ((k : Int) == id) = false := by simp [hid]
                have e2 : ((k : Int) != id) = true := by simp [hid]
                obtain ⟨hk2, hhk⟩ : ∃ b, hasB is (k : Int) = b := ⟨_, rfl⟩
                have HPk : Hid (refP is true id (k : Int) = hk2) := Lib.hid (by rw [refP_other hid]; exact hhk)
                have HHK := Lib.hid hhk
                clear hid hhk
                cases hk2 with
                | true =>
                  go_wp2_with (first
                    | (go_at_call 19; refine (refhas_any A is c (k : Int) _ hc (by omega) (H.out.below HBW.out)).mono ?_; rintro e w' ⟨rfl, rfl⟩; rw [HHK.out])
                    | (at_builtin; refine wpList_append_sees rfl (.tmp 63) (.tmp 65) 22 rfl w.heap.size 3 (.int .i64 0) 1 8 Try.underlying22 infoInt rfl (by decide) (.slice A1 xs.length c1) xs.length (xs.map i64v) rfl (own_alloc' HOW.out _) (some ⟨wr.heap.size, 0, none⟩) 1 1 [.int .i64 (k : Int)] rfl rfl (sees_new wr #[.int .i64 (k : Int)] 3) (by simp [Value.oneCell']) (by simp only [maxLen]; omega) (by omega) (by have := HBW.out.size; simp; omega) ?_; intro A2 c2 w2 hown2 hg2 hat2; have hap := ref_append (base := 0) HBW.out HOW.out hown2 hg2; have HAP := Lib.hid hap; clear hown2 hg2 hat2 hap)
                    | fail)
                  go_roundw
                  case rel =>
                    have hsu := HSU.out
                    rw [HPk.out, if_pos rfl] at hsu
                    have hle : (xs ++ [(k : Int)]).length = xs.length + 1 := by simp
                    exact ⟨k + 1, A2, c2, by go_num, by omega, by rw [hsu, hle], by rw [hsu, hle]; exact HAP.out.1, HAP.out.2⟩
                  case measure => simp [intOf]; omega
                | false =>
                  go_wp2_with (first
                    | (go_at_call 19; refine (refhas_any A is c (k : Int) _ hc (by omega) (H.out.below HBW.out)).mono ?_; rintro e w' ⟨rfl, rfl⟩; rw [HHK.out])
                    | fail)
                  go_roundw
                  case rel =>
                    have hsu := HSU.out
                    rw [HPk.out, if_neg (by decide), List.append_nil] at hsu
                    exact ⟨k + 1, A1, c1, by go_num, by omega, by rw [hsu], by rw [hsu]; exact HOW.out, HBW.out⟩
                  case measure => simp [intOf]; omega
            · obtain rfl : k = 16 := by omega
              go_wp2_with fail
              go_ret2
              have hL : refchangeL is true id = xs := by unfold refchangeL; rw [if_pos HE.out, ← refL_eq]; exact HXS.out
              exact ⟨A1, c1, by rw [HE.out, hL]; rfl, by rw [hL]; exact HOW.out, HBW.out⟩
    case false =>
      cases hb with
      | false =>
        have HE : Hid (changeE is false id = 33) := Lib.hid (by rw [HE0.out, if_pos (.inl rfl)])
        go_enter Try.func23, Try.ntmps23
        go_wp2_with (first
          | (go_at_call 17; refine (refright11_any A is c _ hc (by omega) H.out).mono ?_; rintro e w1 ⟨rfl, hw1⟩; rw [HR.out]; have HB1 := Lib.hid (below_of_drew hw1); clear hw1)
          | (go_at_call 19; refine (refhas_any A is c id _ hc (by omega) (H.out.below HB1.out)).mono ?_; rintro e w' ⟨rfl, rfl⟩; rw [HH.out])
          | fail)
        go_ret2
        exact retList_errR HE.out (by decide) HB1.out
      | true =>
        by_cases hn : is.length = 1
        · have HE : Hid (changeE is false id = 33) := Lib.hid (by rw [HE0.out, if_pos (by simp [hn])])
          have hn1 : ((is.length : Int) == 1) = true := by simp; omega
          clear hn
          go_enter Try.func23, Try.ntmps23
          go_wp2_with (first
            | (go_at_call 17; refine (refright11_any A is c _ hc (by omega) H.out).mono ?_; rintro e w1 ⟨rfl, hw1⟩; rw [HR.out]; have HB1 := Lib.hid (below_of_drew hw1); clear hw1)
            | (go_at_call 19; refine (refhas_any A is c id _ hc (by omega) (H.out.below HB1.out)).mono ?_; rintro e w' ⟨rfl, rfl⟩; rw [HH.out])
            | fail)
          go_ret2
          exact retList_errR HE.out (by decide) HB1.out
        · have HE : Hid (changeE is false id = 0) := Lib.hid (by rw [HE0.out, if_neg (by simp [hn])])
          have hn1 : ((is.length : Int) == 1) = false := by simp; omega
          clear hn
          go_enter Try.func23, Try.ntmps23
          go_wp2_with (first
            | (go_at_call 17; refine (refright11_any A is c _ hc (by omega) H.out).mono ?_; rintro e w1 ⟨rfl, hw1⟩; rw [HR.out]; have HB1 := Lib.hid (below_of_drew hw1); clear hw1)
            | (go_at_call 19; refine (refhas_any A is c id _ hc (by omega) (H.out.below HB1.out)).mono ?_; rintro e w' ⟨rfl, rfl⟩; rw [HH.out])
            | fail)
          go_loopw [8, 9] (fun s8 s9 wr => RefLoop w is false id s8 s9 wr) (fun _ s9 _ => 16 - (intOf s9).toNat)
          case atStart => exact ⟨0, none, 0, rfl, by omega, rfl, ⟨rfl, .inl ⟨rfl, rfl⟩⟩, HB1.out⟩
          case round =>
            obtain ⟨k, A1, c1, rfl, hk, rfl, hown, hbw⟩ := hrel
            have HOW := Lib.hid hown
            have HBW := Lib.hid hbw
            have HSU := Lib.hid (refK_succ is false id k)
            have hln := refK_len is false id k
            obtain ⟨xs, hxs⟩ : ∃ xs, refK is false id k = xs := ⟨_, rfl⟩
            have HXS := Lib.hid hxs
            rw [hxs] at HOW HSU hln
            rw [hxs]
            have hcap := (sees_own' HOW.out).2.1
            clear hown hbw hxs
            by_cases hlt : k < 16
            · have hki : (k : Int) < 16 := by omega
              have hk0 : (0 : Int) ≤ (k : Int) := by omega
              by_cases hid : (k : Int) = id
              · have e1 : ((k : Int) == id) = true := by simp [hid]
                have e2 : ((k : Int) != id) = false := by simp [hid]
                have HPk : Hid (refP is false id (k : Int) = false) := Lib.hid (by rw [hid]; exact refP_same)
                clear hid
                go_wp2_with (first
                  | fail
                  | fail)
                go_roundw
                case rel =>
                  have hsu := HSU.out
                  rw [HPk.out, if_neg (by decide), List.append_nil] at hsu
                  exact ⟨k + 1, A1, c1, by go_num, by omega, by rw [hsu], by rw [hsu]; exact HOW.out, HBW.out⟩
                case measure => simp [intOf]; omega
              · have e1 : ((k : Int) == id) = false := by simp [hid]
                have e2 : ((k : Int) != id) = true := by simp [hid]
                obtain ⟨hk2, hhk⟩ : ∃ b, hasB is (k : Int) = b := ⟨_, rfl⟩
                have HPk : Hid (refP is false id (k : Int) = hk2) := Lib.hid (by rw [refP_other hid]; exact hhk)
                have HHK := Lib.hid hhk
                clear hid hhk
                cases hk2 with
                | true =>
                  go_wp2_with (first
                    | (go_at_call 19; refine (refhas_any A is c (k : Int) _ hc (by omega) (H.out.below HBW.out)).mono ?_; rintro e w' ⟨rfl, rfl⟩; rw [HHK.out])
                    | (at_builtin; refine wpList_append_sees rfl (.tmp 63) (.tmp 65) 22 rfl w.heap.size 3 (.int .i64 0) 1 8 Try.underlying22 infoInt rfl (by decide) (.slice A1 xs.length c1) xs.length (xs.map i64v) rfl (own_alloc' HOW.out _) (some ⟨wr.heap.size, 0, none⟩) 1 1 [.int .i64 (k : Int)] rfl rfl (sees_new wr #[.int .i64 (k : Int)] 3) (by simp [Value.oneCell']) (by simp only [maxLen]; omega) (by omega) (by have := HBW.out.size; simp; omega) ?_; intro A2 c2 w2 hown2 hg2 hat2; have hap := ref_append (base := 0) HBW.out HOW.out hown2 hg2; have HAP := Lib.hid hap; clear hown2 hg2 hat2 hap)
                    | fail)
                  go_roundw
                  case rel =>
                    have hsu := HSU.out
                    rw [HPk.out, if_pos rfl] at hsu
                    have hle : (xs ++ [(k : Int)]).length = xs.length + 1 := by simp
                    exact ⟨k + 1, A2, c2, by go_num, by omega, by rw [hsu, hle], by rw [hsu, hle]; exact HAP.out.1, HAP.out.2⟩
                  case measure => simp [intOf]; omega
                | false =>
                  go_wp2_with (first
                    | (go_at_call 19; refine (refhas_any A is c (k : Int) _ hc (by omega) (H.out.below HBW.out)).mono ?_; rintro e w' ⟨rfl, rfl⟩; rw [HHK.out])
                    | fail)
                  go_roundw
                  case rel =>
                    have hsu := HSU.out
                    rw [HPk.out, if_neg (by decide), List.append_nil] at hsu
                    exact ⟨k + 1, A1, c1, by go_num, by omega, by rw [hsu], by rw [hsu]; exact HOW.out, HBW.out⟩
                  case measure => simp [intOf]; omega
            · obtain rfl : k = 16 := by omega
              go_wp2_with fail
              go_ret2
              have hL : refchangeL is false id = xs := by unfold refchangeL; rw [if_pos HE.out, ← refL_eq]; exact HXS.out
              exact ⟨A1, c1, by rw [HE.out, hL]; rfl, by rw [hL]; exact HOW.out, HBW.out⟩
end Go.Proofs.Ytopcgnilajmnhaa
