/-
  Layer 11: the law ConfMeet: the walk.
-/
import Derived.Test.YtopcgnilajmnhaaConfL2
set_option linter.unusedVariables false
set_option linter.unusedSimpArgs false
namespace Go.Proofs.Ytopcgnilajmnhaa
open Go.RowKit

def insideL (l who : List Int) : List Int := l.filter fun x => hasB who x
theorem inside_take {l who : List Int} {k : Nat} (hk : k < l.length) : insideL (l.take (k + 1)) who = insideL (l.take k) who ++ if hasB who l[k] = true then [l[k]] else [] := by
  unfold insideL
  rw [List.take_succ_eq_append_getElem hk, List.filter_append]
  congr 1
  cases h : hasB who l[k] <;> simp [h]
theorem inside_len (l who : List Int) : (insideL l who).length ≤ l.length := List.length_filter_le _ _
theorem mem_inside {l who : List Int} {x : Int} (h : x ∈ insideL l who) : x ∈ l := (List.mem_filter.1 h).1
/-- Two quorums meet. -/
theorem quorums_meet {l : List Int} {add : Bool} {id : Int} {a b : List Int} (h : changeE l add id = 0) (h1 : quorN l.length ≤ (insideL l a).length) (h2 : quorN (changeL l add id).length ≤ (insideL (changeL l add id) b).length)
    (hn : ∀ x ∈ insideL l a, x ∉ insideL (changeL l add id) b) : False := by
  have hr := rightP_of (changeE_zero.1 h).1
  have hr2 := change_right h
  have hl := change_len h
  have hp := hr.pos
  have hnd : (insideL l a ++ insideL (changeL l add id) b).Nodup := by
    rw [List.nodup_append]
    exact ⟨hr.nodup.filter _, hr2.nodup.filter _, fun x hx y hy e => hn x hx (e ▸ hy)⟩
  unfold quorN at h1 h2
  cases ha : add with
  | true =>
    subst ha
    have := nodup_len (ys := changeL l true id) hnd (fun x hx => by
      rcases List.mem_append.1 hx with hx | hx
      · rw [change_mem h]
        have hm := mem_inside hx
        by_cases e : x = id
        · exact .inl ⟨e, rfl⟩
        · exact .inr ⟨e, hm⟩
      · exact mem_inside hx)
    rw [List.length_append] at this
    simp at hl
    omega
  | false =>
    subst ha
    have := nodup_len (ys := l) hnd (fun x hx => by
      rcases List.mem_append.1 hx with hx | hx
      · exact mem_inside hx
      · have := (change_mem h).1 (mem_inside hx)
        simp at this
        exact this.2)
    rw [List.length_append] at this
    simp at hl
    omega
/-- Between two rounds of 'inside'. -/
def InLoop (w : World) (l who : List Int) (s5 s6 : Value) (wr : World) : Prop :=
  ∃ (k : Nat) (A : Option Addr) (n c : Nat), s6 = .int .i64 (k : Int) ∧ k ≤ l.length ∧ s5 = .slice A n c ∧ (insideL (l.take k) who).length = n ∧ wr.ownsRow w.heap.size 3 1 (.slice A n c) n ((insideL (l.take k) who).map i64v) ∧ Below w.heap.size w wr
set_option maxHeartbeats 2000000 in
theorem inside_any (A B : Option Addr) (l who : List Int) (c d : Nat) (w : World) (hc : l.length ≤ c) (hd : who.length ≤ d) (hl : (l.length + 1) * 8 ≤ 140737488355328) (hl2 : who.length ≤ 140737488355328) (hA : Sees w A (l.map i64v)) (hB : Sees w B (who.map i64v)) :
    Calls Try.prog 25 #[.slice A l.length c, .slice B who.length d] w (RetInts w (insideL l who).length (insideL l who)) := by
  have HA := Lib.hid hA
  have HB := Lib.hid hB
  clear hA hB
  go_enter Try.func25, Try.ntmps25
  go_wp2_with fail
  go_loopw [5, 6] (fun s5 s6 wr => InLoop w l who s5 s6 wr) (fun _ s6 _ => l.length - (intOf s6).toNat)
  case atStart => exact ⟨0, none, 0, 0, rfl, Nat.zero_le _, rfl, rfl, ⟨rfl, .inl ⟨rfl, rfl⟩⟩, Below.refl _ _⟩
  case round =>
    obtain ⟨k, A1, n, c1, rfl, hk, rfl, hnl, hown, hbw⟩ := hrel
    have HOW := Lib.hid hown
    have HBW := Lib.hid hbw
    have HNL := Lib.hid hnl
    have hnk : n ≤ l.length := by rw [← hnl]; exact Nat.le_trans (inside_len _ _) (by rw [List.length_take]; omega)
    clear hown hbw hnl
    by_cases hlt : k < l.length
    · have hki : (k : Int) < (l.length : Int) := by omega
      have hk0 : (0 : Int) ≤ (k : Int) := by omega
      have HIT := Lib.hid (inside_take (who := who) hlt)
      obtain ⟨ad, hadA, hca0⟩ := ints_at (HA.out.below HBW.out) k hlt
      subst hadA
      obtain ⟨x, hx⟩ : ∃ x, l[k] = x := ⟨_, rfl⟩
      rw [hx] at HIT
      have HX := Lib.hid hx
      clear hx hca0
      go_wp2_with fail
      obtain ⟨wo, hwo⟩ : ∃ wo : World, wo = wr := ⟨_, rfl⟩
      rw [← hwo] at HOW HBW ⊢
      clear hwo
      go_loopw [7, 8] (fun s7 s8 wr => ∃ m : Nat, s8 = .int .i64 (m : Int) ∧ m ≤ who.length ∧ s7 = .bool (hasB (who.take m) x) ∧ ∃ dn, wr = wo.drewN dn) (fun _ s8 _ => who.length - (intOf s8).toNat)
      case atStart => exact ⟨0, rfl, Nat.zero_le _, rfl, 0, rfl⟩
      case round =>
        obtain ⟨m, rfl, hm, rfl, hwr⟩ := hrel
        have HWR := Lib.hid hwr
        clear hwr
        obtain ⟨bd, hbd⟩ : ∃ bd, hasB (who.take m) x = bd := ⟨_, rfl⟩
        have HBD := Lib.hid hbd
        rw [hbd]
        clear hbd
        by_cases hmlt : m < who.length
        · have hmi : (m : Int) < (who.length : Int) := by omega
          have hm0 : (0 : Int) ≤ (m : Int) := by omega
          have HHT := Lib.hid (hasB_take (x := x) hmlt)
          cases bd with
          | true =>
            go_wp2_with fail
            go_quiet (fail)
            go_wp2_with fail
            go_roundw
            case rel => exact ⟨m + 1, by go_num, by omega, by rw [HHT.out, HBD.out]; rfl, drew_of HWR.out _⟩
            case measure => simp [intOf]; omega
          | false =>
            obtain ⟨bd2, hb2, hcb⟩ := ints_at (sees_drew (HB.out.below HBW.out) HWR.out) m hmlt
            obtain ⟨_, ha2, hca⟩ := ints_at (sees_drew (HA.out.below HBW.out) HWR.out) k hlt
            cases ha2
            cases hb2
            rw [HX.out] at hca
            obtain ⟨y, hy⟩ : ∃ y, who[m] = y := ⟨_, rfl⟩
            rw [hy] at hcb HHT
            clear hy
            obtain ⟨eb, heb⟩ : ∃ eb, (y == x) = eb := ⟨_, rfl⟩
            rw [heb] at HHT
            go_wp2_with fail
            go_quiet (fail)
            go_wp2_with fail
            go_roundw
            case rel => exact ⟨m + 1, by go_num, by omega, by rw [HHT.out, HBD.out]; rfl, drew_of HWR.out _⟩
            case measure => simp [intOf]; omega
        · obtain rfl : m = who.length := by omega
          have hmi : ¬ ((who.length : Int) < (who.length : Int)) := by omega
          have HHB : Hid (hasB who x = bd) := Lib.hid (by have := HBD.out; rwa [List.take_length] at this)
          have HBR := Lib.hid (below_step HBW.out HBW.out.size (below_of_drew HWR.out))
          have HOR := Lib.hid (own_keep HOW.out (below_of_drew HWR.out))
          obtain ⟨_, ha2, hca⟩ := ints_at (sees_drew (HA.out.below HBW.out) HWR.out) k hlt
          cases ha2
          rw [HX.out] at hca
          have hcap := (sees_own' HOR.out).2.1
          cases bd with
          | true =>
            go_wp2_with (first
              | (at_builtin; refine wpList_append_sees rfl (.tmp 34) (.tmp 39) 22 rfl w.heap.size 3 (.int .i64 0) 1 8 Try.underlying22 infoInt rfl (by decide) (.slice A1 n c1) n _ rfl (own_alloc' HOR.out _) (some ⟨wr.heap.size, 0, none⟩) 1 1 [.int .i64 x] rfl rfl (sees_new wr #[.int .i64 x] 3) (by simp [Value.oneCell']) (by simp only [maxLen]; omega) (by omega) (by have := HBR.out.size; simp; omega) ?_; intro A2 c2 w2 hown2 hg2 hat2; have hap := ref_append (base := 0) HBR.out HOR.out hown2 hg2; have HAP := Lib.hid hap; clear hown2 hg2 hat2 hap)
              | fail)
            go_roundw
            case rel =>
              have hit := HIT.out
              rw [if_pos HHB.out] at hit
              exact ⟨k + 1, A2, n + 1, c2, by go_num, by omega, rfl, by rw [hit, List.length_append, HNL.out]; rfl, by rw [hit]; exact HAP.out.1, HAP.out.2⟩
            case measure => simp [intOf]; omega
          | false =>
            go_wp2_with fail
            go_roundw
            case rel =>
              have hit := HIT.out
              rw [if_neg (by rw [HHB.out]; decide), List.append_nil] at hit
              exact ⟨k + 1, A1, n, c1, by go_num, by omega, rfl, by rw [hit]; exact HNL.out, by rw [hit]; exact HOR.out, HBR.out⟩
            case measure => simp [intOf]; omega
    · obtain rfl : k = l.length := by omega
      have hki : ¬ ((l.length : Int) < (l.length : Int)) := by omega
      have hnl := HNL.out
      have how := HOW.out
      rw [List.take_length] at hnl how
      have HN2 := Lib.hid hnl
      have HO2 := Lib.hid how
      clear hnl how
      go_wp2_with fail
      go_ret
      rw [HN2.out]
      exact ⟨A1, c1, rfl, HO2.out, HBW.out⟩
end Go.Proofs.Ytopcgnilajmnhaa
