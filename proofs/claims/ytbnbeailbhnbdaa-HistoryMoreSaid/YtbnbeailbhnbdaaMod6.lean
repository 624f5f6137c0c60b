/-
  The reference's Get.
-/
import Derived.Test.YtbnbeailbhnbdaaMod5
set_option linter.unusedVariables false
set_option linter.unusedSimpArgs false
namespace Go.Proofs.Ytbnbeailbhnbdaa
open Go.RowKit

/-- Which records are told. -/
def getOK (fr : Int) (first n : Nat) : Bool := decide ((first : Int) ≤ fr) && decide (fr ≤ ((first + n : Nat) : Int))
def getL (fr most : Int) (first : Nat) (l : List (List UInt8)) : List (List UInt8) := if getOK fr first l.length = true then (l.drop (fr - first).toNat).take most.toNat else []
/-- Rows that stand in a new row. -/
def RetGetR (S : Nat → Prop) (xs : List (List UInt8)) (b : Bool) (w : World) (e : Ending) (w' : World) : Prop :=
  ∃ A m c cells, e = .returned (.tuple #[.slice A m c, .bool b]) ∧ m = xs.length ∧ w'.ownsRow w.heap.size 30 1 (.slice A m c) m cells ∧ Recs (byRow S) 1 w' xs cells ∧ Below w.heap.size w w'
theorem recs_keep {S : Nat → Prop} {w W : World} {l : List (List UInt8)} {cells : List Value} (h : Recs (byRow S) 1 w l cells) (hb : Below w.heap.size w W) : Recs (byRow S) 1 W l cells := h.imp fun j x cs _ hl => by
  obtain ⟨A1, c1, e, ho, hs⟩ := hl
  exact ⟨A1, c1, e, own_keep ho hb, hs⟩
theorem get_eq {l : List (List UInt8)} {k m i n q : Nat} (hn : l.length = n) (hi : k + m = i) (hin : i ≤ n) (hm : m ≤ q) (he : i = n ∨ m = q) : (l.drop k).take q = (l.drop k).take m := by
  rcases he with he | he
  · rw [List.take_of_length_le (by rw [List.length_drop]; omega), List.take_of_length_le (by rw [List.length_drop]; omega)]
  · rw [he]
theorem get_len {l : List (List UInt8)} {k m i n q : Nat} (hn : l.length = n) (hi : k + m = i) (hin : i ≤ n) (hm : m ≤ q) (he : i = n ∨ m = q) : m = ((l.drop k).take q).length := by
  rw [get_eq hn hi hin hm he, List.length_take, List.length_drop]
  omega
theorem get_recs {S : Nat → Prop} {w W : World} {l : List (List UInt8)} {cells : List Value} {k m i n q : Nat} (hn : l.length = n) (h : Recs (byRow S) 1 w l cells) (hb : Below w.heap.size w W) (hi : k + m = i) (hin : i ≤ n) (hm : m ≤ q) (he : i = n ∨ m = q) : Recs (byRow S) 1 W ((l.drop k).take q) ((cells.drop k).take m) := by
  rw [get_eq hn hi hin hm he]
  have h1 := ((recs_keep h hb).drop k).take m
  rwa [Nat.mul_one, Nat.mul_one] at h1
theorem cell_get {S : Nat → Prop} {w : World} {l : List (List UInt8)} {cells : List Value} {i n : Nat} (h : Recs (byRow S) 1 w l cells) (hn : l.length = n) (hi : i < n) : ∃ A q c, cells[i]? = some (.slice A q c) := by
  have hil : i < l.length := by omega
  obtain ⟨cs, _, ⟨A1, c1, rfl, _, _⟩, hcs⟩ := h.get (List.getElem?_eq_getElem hil)
  exact ⟨A1, _, c1, by simpa using hcs 0 _ rfl⟩
def GetLoop (k n : Nat) (most : Int) (cells : List Value) (w : World) (s8 s9 : Value) (wr : World) : Prop :=
  ∃ (i m : Nat) (A : Option Addr) (c : Nat), s8 = .slice A m c ∧ s9 = .int .i64 (i : Int) ∧ k + m = i ∧ i ≤ n ∧ (m ≤ most.toNat) ∧ wr.ownsRow w.heap.size 30 1 (.slice A m c) m ((cells.drop k).take m) ∧ Below w.heap.size w wr
set_option maxHeartbeats 4000000 in
theorem refget_any {S : Nat → Prop} {g first : Nat} {l : List (List UInt8)} (fr most : Int) (w : World) (h : ModAt 28 S g first l w) (hf : first ≤ 140737488355328) (hl : l.length ≤ 4398046511104) :
    Calls Try.prog 16 #[.pointer (some ⟨g, 0, none⟩), .int .i64 fr, .int .i64 most] w (RetGetR S (getL fr most first l) (getOK fr first l.length) w) := by
  obtain ⟨R, cr, cells, h1, h2, h3, h4, h5⟩ := id h
  have hgl := (Array.getElem?_eq_some_iff.1 h1).1
  have hS : ∀ W', Below w.heap.size w W' → W'.cell? ⟨g, 0, none⟩ = some (.int .i64 (first : Int)) ∧ W'.cell? ⟨g, 1, none⟩ = some (.slice R l.length cr) := fun W' hb => ⟨(mod_cells ((hb.block g hgl).trans h1)).1, (mod_cells ((hb.block g hgl).trans h1)).2.1⟩
  have k0 := (hS w (Below.refl _ _)).1
  have k1 := (hS w (Below.refl _ _)).2
  have HS := Lib.hid hS
  have HNX := Lib.hid (fun W (hb : Below w.heap.size w W) => refnext_any W (h.below hb) hf (by omega))
  have H3 := Lib.hid h3
  have H5 := Lib.hid h5
  obtain ⟨n, hn⟩ : ∃ n, l.length = n := ⟨_, rfl⟩
  have HN := Lib.hid hn
  rw [hn] at HNX HS H3 k1 hl ⊢
  clear h h1 h2 h3 h4 h5 hS hn
  by_cases c1 : (first : Int) ≤ fr
  · by_cases c2 : fr ≤ (first : Int) + (n : Int)
    · have hok : getOK fr first n = true := by simp [getOK]; omega
      have HV : Hid (getL fr most first l = (l.drop (fr - first).toNat).take most.toNat) := Lib.hid (by unfold getL; rw [HN.out, if_pos hok])
      rw [HV.out, hok]
      obtain ⟨k, hk⟩ : ∃ k : Nat, fr = (first : Int) + (k : Int) := ⟨(fr - first).toNat, by omega⟩
      subst hk
      have ek : ((first : Int) + (k : Int) - (first : Int)).toNat = k := by omega
      rw [ek]
      have hkn : k ≤ n := by omega
      have e1 : ¬ (first : Int) + (k : Int) < (first : Int) := by omega
      have e2 : ¬ (first : Int) + (n : Int) < (first : Int) + (k : Int) := by omega
      have e3 : (first : Int) + (k : Int) - (first : Int) = (k : Int) := by omega
      have e5 : ¬ n < k := by omega
      have HST : Hid (∀ W, Below w.heap.size w W → GetLoop k n most cells w (.slice none 0 0) (.int .i64 (k : Int)) W) := Lib.hid fun W hb => ⟨k, 0, none, 0, rfl, rfl, rfl, hkn, Nat.zero_le _, ⟨by simp, .inl ⟨rfl, rfl⟩⟩, hb⟩
      clear HV ek hok c1 c2
      go_enter Try.func16, Try.ntmps16
      go_wp2_with (first
        | (go_at_call 20; refine (HNX.out _ (Below.refl _ _)).mono ?_; rintro e w1 ⟨rfl, hb1⟩; have m0 := (HS.out w1 hb1).1; have m1 := (HS.out w1 hb1).2)
        | fail)
      go_loopw [8, 9] (fun s8 s9 wr => GetLoop k n most cells w s8 s9 wr) (fun _ s9 _ => n - (intOf s9).toNat)
      case atStart => exact HST.out _ hb1
      case round =>
        clear m0 m1 hb1
        obtain ⟨i, m, A, c, rfl, rfl, him, hin, hmm, ho, hb⟩ := hrel
        have m0 := (HS.out wr hb).1
        have m1 := (HS.out wr hb).2
        have HO := Lib.hid ho
        have HB := Lib.hid hb
        have HIM := Lib.hid him
        by_cases hi : i < n
        · have hii : (i : Int) < (n : Int) := by omega
          by_cases hmo : (m : Int) < most
          · have hq := H3.out.keep hb
            obtain ⟨gr, o, cap, hv, _, _, _, _, hcells⟩ := hq.some_of (by omega)
            cases hv
            have hcl : i < cells.length := by have := H3.out.1; omega
            obtain ⟨A1, q1, c1, hu⟩ := cell_get H5.out HN.out hi
            have hc := hcells i _ hu
            have hone := recs_one H5.out _ (List.mem_of_getElem? hu)
            have HTK : Hid ((cells.drop k).take (m + 1) = (cells.drop k).take m ++ [.slice A1 q1 c1]) := Lib.hid (by
              rw [List.take_add_one, List.getElem?_drop, HIM.out, hu]
              rfl)
            have hmb : m ≤ n := by omega
            clear hq hcells hcl hu ho hb him
            go_wp2_with (first
              | (refine wpList_append_sees rfl (.tmp 43) (.tmp 51) 26 (by rfl) w.heap.size 30 (.slice none 0 0) 1 24 Try.underlying26 infoBytes rfl (by decide) (.slice A m c) m ((cells.drop k).take m) (by rfl) (by exact own_alloc' HO.out _) (some ⟨wr.heap.size, 0, none⟩) 1 1 [.slice A1 q1 c1] (by rfl) (by rfl) (by exact sees_new _ _ _) (by simp [Value.oneCell']) (by simp only [maxLen]; omega) (by omega) (by exact Nat.le_trans HB.out.size (by simp)) ?_; intro A4 c4 w4 ho4 hg4 ha4; have HO4 := Lib.hid ho4; have HB4 : Hid (Below w.heap.size w w4) := Lib.hid (below_grown_own (HB.out.alloc HB.out.size _) (Nat.le_trans HB.out.size (by simp)) (own_alloc' HO.out _) (Nat.le_refl _) hg4); clear ho4 hg4 ha4)
              | fail)
            go_roundw
            case rel =>
              refine ⟨i + 1, m + 1, A4, c4, rfl, by go_num, by have := HIM.out; omega, hi, by omega, ?_, HB4.out⟩
              rw [HTK.out]
              exact HO4.out
            case measure => simp [intOf] <;> omega
          · go_wp2_with fail
            go_ret2
            exact ⟨A, m, c, _, rfl, get_len HN.out HIM.out hin hmm (.inr (by omega)), HO.out, get_recs HN.out H5.out HB.out HIM.out hin hmm (.inr (by omega)), HB.out⟩
        · have hii : ¬ (i : Int) < (n : Int) := by omega
          go_wp2_with fail
          go_ret2
          exact ⟨A, m, c, _, rfl, get_len HN.out HIM.out hin hmm (.inl (by omega)), HO.out, get_recs HN.out H5.out HB.out HIM.out hin hmm (.inl (by omega)), HB.out⟩
    · have hok : getOK fr first n = false := by simp [getOK]; omega
      have HV : Hid (getL fr most first l = []) := Lib.hid (by unfold getL; rw [HN.out, hok]; rfl)
      rw [HV.out, hok]
      have e1 : ¬ fr < (first : Int) := by omega
      have e2 : (first : Int) + (n : Int) < fr := by omega
      go_enter Try.func16, Try.ntmps16
      go_wp2_with (first
        | (go_at_call 20; refine (HNX.out _ (Below.refl _ _)).mono ?_; rintro e w1 ⟨rfl, hb1⟩; have m0 := (HS.out w1 hb1).1; have m1 := (HS.out w1 hb1).2)
        | fail)
      go_ret2
      exact ⟨none, 0, 0, [], rfl, rfl, ⟨rfl, .inl ⟨rfl, rfl⟩⟩, Recs.nil, hb1⟩
  · have hok : getOK fr first n = false := by simp [getOK]; omega
    have HV : Hid (getL fr most first l = []) := Lib.hid (by unfold getL; rw [HN.out, hok]; rfl)
    rw [HV.out, hok]
    have e1 : fr < (first : Int) := by omega
    go_enter Try.func16, Try.ntmps16
    go_wp2_with fail
    go_ret2
    exact ⟨none, 0, 0, [], rfl, rfl, ⟨rfl, .inl ⟨rfl, rfl⟩⟩, Recs.nil, Below.refl _ _⟩
end Go.Proofs.Ytbnbeailbhnbdaa
