/-
  Calls that may be by themselves: all of a row.
-/
import Derived.Test.YtbnbeailbhnbdaaCall4
set_option linter.unusedVariables false
set_option linter.unusedSimpArgs false
namespace Go.Proofs.Ytbnbeailbhnbdaa
open Go.RowKit

theorem notAlone_any (c : CV) (w : World) : Calls Try.prog 45 #[c.val] w (RetBo (!aloneB c) w) := by
  have hal : ∃ o W, w.alloc o = W ∧ o = .cells c.cells 62 ∧ Below w.heap.size w W := ⟨_, _, rfl, rfl, (Below.refl w.heap.size w).alloc (Nat.le_refl _) _⟩
  obtain ⟨c1, c2, c3, c4, c5, c6, c7, c8, c9, c10, c11, c12⟩ := c
  unfold CV.val
  obtain ⟨v, hv⟩ : ∃ v, aloneB ⟨c1, c2, c3, c4, c5, c6, c7, c8, c9, c10, c11, c12⟩ = v := ⟨_, rfl⟩
  have hc := fun W => alone_any ⟨c1, c2, c3, c4, c5, c6, c7, c8, c9, c10, c11, c12⟩ W
  rw [hv] at hc ⊢
  unfold CV.val at hc
  unfold CV.cells at hc hal ⊢
  obtain ⟨o, W, hW, ho, hb⟩ := hal
  subst ho
  have HC := Lib.hid hc
  have HB := Lib.hid hb
  have HW := Lib.hid hW
  clear hc hb hW
  go_enter Try.func45, Try.ntmps45
  go_wp2_with (first
    | (go_at_call 46; refine (HC.out _).mono ?_; rintro e w1 ⟨rfl, hb1⟩; rw [HW.out] at hb1)
    | fail)
  go_ret
  exact ⟨rfl, below_step HB.out HB.out.size hb1⟩
def CallsOf (gc : Nat) (A : Option Addr) (cs : List CV) (n : Nat) (W : World) : Prop := cs.length = n ∧ (0 < n → A = some ⟨gc, 0, none⟩) ∧ CallsAt gc cs W ∧ ∀ c ∈ cs, c.dv.oneCell' = true ∧ c.rv.oneCell' = true
theorem CallsOf.below {gc : Nat} {A : Option Addr} {cs : List CV} {n : Nat} {W W' : World} (h : CallsOf gc A cs n W) (hb : Below W.heap.size W W') : CallsOf gc A cs n W' := ⟨h.1, h.2.1, h.2.2.1.below hb, h.2.2.2⟩
theorem wpList_load_call {ops : Array Oper} {rest : List Oper} {op : Oper} {a : Act} {w : World} {Q : Exit → Act → World → Prop} (hgd : op.guard = none) (x : Operand) (ho : op.op = .load 62 x)
    (gc k : Nat) (hx : a.eval x = .pointer (some ⟨gc, k * 12, none⟩)) (c : CV) (hc : w.rangeAt gc (k * 12) c.cells.toList)
    (h : wpList Try.prog ops Q rest (a.put op.dst c.val) w) : wpList Try.prog ops Q (op :: rest) a w :=
  wpList_load_mid hgd 62 x ho gc (k * 12) hx c.cells.toList _ hc Try.underlying62 rfl (by kernel_rfl) h
theorem callsAt_get {gc : Nat} {cs : List CV} {W : World} (h : CallsAt gc cs W) {k : Nat} {c : CV} (hc : cs[k]? = some c) :
    W.cell? ⟨gc, k * 12, none⟩ = some (.int .i64 c.client) := by
  have := h k c hc 0 _ rfl
  simpa using this
set_option maxHeartbeats 2000000 in
theorem index_any {gc : Nat} {A : Option Addr} {n cp : Nat} {cs : List CV} (w : World) (h : CallsOf gc A cs n w) (hm : n ≤ 140737488355328) :
    Calls Try.prog 56 #[.slice A n cp, .func (.func 45) #[] #[]] w (fun e w' => (∃ r : Int, e = .returned (.int .i64 r) ∧ decide (0 ≤ r) = !(cs.all aloneB)) ∧ Below w.heap.size w w') := by
  have H := Lib.hid h
  clear h
  go_enter Try.func56, Try.ntmps56
  go_wp2_with fail
  go_loopw [8] (fun s wr => ∃ k : Nat, s = .int .i64 (k : Int) ∧ k ≤ n ∧ (cs.take k).all aloneB = true ∧ Below w.heap.size w wr) (fun s _ => n - (intOf s).toNat)
  case atStart => exact ⟨0, rfl, Nat.zero_le _, rfl, Below.refl _ _⟩
  case round =>
    obtain ⟨k, rfl, hk, hall, hb⟩ := hrel
    have HA := Lib.hid hall
    have HB := Lib.hid hb
    clear hall
    by_cases hlt : k < n
    · have hki : (k : Int) < (n : Int) := by omega
      obtain rfl := H.out.2.1 (by omega)
      have hkl : k < cs.length := by have := H.out.1; omega
      obtain ⟨c, hc⟩ : ∃ c, cs[k]? = some c := ⟨_, List.getElem?_eq_getElem hkl⟩
      have hr := (H.out.below hb).2.2.1 k c hc
      have HR := Lib.hid hr
      have HT : Hid (cs.take (k + 1) = cs.take k ++ [c]) := Lib.hid (by
        rw [List.take_add_one, hc]; rfl)
      have HCC := Lib.hid hc
      clear hr hc hb
      obtain ⟨v, hv⟩ : ∃ v, aloneB c = v := ⟨_, rfl⟩
      have HV := Lib.hid hv
      clear hv
      cases v with
      | true =>
        go_wp2_with (first
          | (refine wpList_load_call rfl _ rfl gc k rfl c HR.out ?_)
          | (go_at_call 45; refine (notAlone_any c _).mono ?_; rintro e w1 ⟨rfl, hb1⟩; rw [HV.out]; have HB1 := Lib.hid hb1; clear hb1)
          | fail)
        go_roundw
        case rel =>
          refine ⟨k + 1, by go_num, hlt, ?_, below_step HB.out HB.out.size HB1.out⟩
          rw [HT.out, List.all_append, HA.out]
          simp [HV.out]
        case measure => simp [intOf] <;> omega
      | false =>
        go_wp2_with (first
          | (refine wpList_load_call rfl _ rfl gc k rfl c HR.out ?_)
          | (go_at_call 45; refine (notAlone_any c _).mono ?_; rintro e w1 ⟨rfl, hb1⟩; rw [HV.out]; have HB1 := Lib.hid hb1; clear hb1)
          | fail)
        go_ret
        refine ⟨⟨(k : Int), rfl, ?_⟩, below_step HB.out HB.out.size HB1.out⟩
        have h1 : cs.all aloneB = false := by
          rw [List.all_eq_false]
          exact ⟨c, List.mem_of_getElem? HCC.out, by rw [HV.out]; decide⟩
        rw [h1]
        simp
    · have hki : ¬ (k : Int) < (n : Int) := by omega
      go_wp2_with fail
      go_ret
      refine ⟨⟨-1, rfl, ?_⟩, HB.out⟩
      have h1 := HA.out
      rw [List.take_of_length_le (by have := H.out.1; omega)] at h1
      rw [h1]
      rfl
theorem contains_any {gc : Nat} {A : Option Addr} {n cp : Nat} {cs : List CV} (w : World) (h : CallsOf gc A cs n w) (hm : n ≤ 140737488355328) :
    Calls Try.prog 44 #[.slice A n cp, .func (.func 45) #[] #[]] w (RetBo (!(cs.all aloneB)) w) := by
  have H := Lib.hid h
  clear h
  go_enter Try.func44, Try.ntmps44
  go_wp2_with (first
    | (go_at_call 56; refine (index_any w H.out hm).mono ?_; rintro e w1 ⟨⟨r, rfl, hr⟩, hb1⟩; have HR := Lib.hid hr; have HB := Lib.hid hb1; clear hr hb1)
    | fail)
  go_ret
  exact ⟨by rw [← HR.out]; rfl, HB.out⟩
end Go.Proofs.Ytbnbeailbhnbdaa
