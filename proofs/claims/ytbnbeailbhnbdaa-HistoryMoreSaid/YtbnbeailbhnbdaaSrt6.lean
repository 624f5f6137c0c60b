/-
  slices' stable sort at numbers: symMerge, the cut in two.
-/
import Derived.Test.YtbnbeailbhnbdaaSrt5
set_option linter.unusedVariables false
set_option linter.unusedSimpArgs false
namespace Go.Proofs.Ytbnbeailbhnbdaa
open Go.RowKit

/-- Where a merge is cut: s numbers of the left, e of the right ahead. -/
structure CutAt (lt : Int → Int → Bool) (a m b mid s e : Nat) (L R : List Int) : Prop where
  hs : a ≤ s
  hsm : s ≤ m
  hme : m ≤ e
  heb : e ≤ b
  hsum : s + e = mid + m
  LR : ∀ x ∈ L.take (s - a), ∀ y ∈ R.drop (e - m), lt x y = true
  RL : ∀ x ∈ R.take (e - m), ∀ y ∈ L.drop (s - a), lt x y = true
theorem srt_one {lt : Int → Int → Bool} {X Y : List Int} (hX : Srt lt X) (hY : Srt lt Y) (h : X = [] ∨ Y = []) : Srt lt (X ++ Y) := by
  rcases h with rfl | rfl
  · exact hY
  · rw [List.append_nil]; exact hX
theorem cut_of {lt : Int → Int → Bool} (ho : LO lt) {a m b mid nn s0 r0 p s e : Nat} {L R : List Int} (hL : a + L.length = m) (hR : m + R.length = b) (sL : Srt lt L) (sR : Srt lt R) (hx : ∀ x ∈ L, ∀ y ∈ R, x < y)
    (hnn : mid + m = nn) (hp : p + 1 = nn) (h1 : s0 ≤ s) (h2 : s ≤ r0) (k1 : a ≤ s0) (k2 : r0 ≤ m) (k3 : r0 ≤ mid) (k4 : nn ≤ s0 + b) (k5 : s0 = a ∨ s0 + b = nn) (k6 : r0 = mid ∨ r0 = m) (he : s + e = nn)
    (i1 : s = s0 ∨ lt (R.getD (p - (s - 1) - m) 0) (L.getD (s - 1 - a) 0) = false) (i2 : s = r0 ∨ lt (R.getD (p - s - m) 0) (L.getD (s - a) 0) = true) : CutAt lt a m b mid s e L R where
  hs := by omega
  hsm := by omega
  hme := by omega
  heb := by omega
  hsum := by omega
  LR := by
    refine cross ho sL sR (by omega) ?_
    rcases Nat.lt_or_ge a s with ha | ha
    · rcases Nat.lt_or_ge e b with hb | hb
      · rcases i1 with i1 | i1
        · omega
        · rw [show p - (s - 1) - m = e - m by omega, show s - 1 - a = s - a - 1 by omega] at i1
          refine .inr (.inr (ho.of_not ?_ i1))
          have := hx _ (mem_getD (l := L) (k := s - a - 1) (by omega)) _ (mem_getD (l := R) (k := e - m) (by omega))
          omega
      · exact .inr (.inl (by omega))
    · exact .inl (by omega)
  RL := by
    refine cross ho sR sL (by omega) ?_
    rcases i2 with i2 | i2
    · rcases k6 with k6 | k6
      · exact .inl (by omega)
      · exact .inr (.inl (by omega))
    · rcases Nat.eq_zero_or_pos (e - m) with h0 | h0
      · exact .inl h0
      · rw [show p - s - m = e - m - 1 by omega] at i2
        exact .inr (.inr i2)
/-- The two parts stand as the cut says. -/
def Parts1 (g : Nat) (P L R S : List Int) (i j : Nat) (w W : World) : Prop := ArrAt g (P ++ (L.take i ++ (R.take j ++ (L.drop i ++ (R.drop j ++ S))))) W ∧ Outside (· = g) w W
/-- The first part is in order. -/
def Parts2 (g : Nat) (lt : Int → Int → Bool) (P L R S : List Int) (i j : Nat) (w W : World) : Prop := ∃ M1, M1.Perm (L.take i ++ R.take j) ∧ Srt lt M1 ∧ ArrAt g (P ++ (M1 ++ (L.drop i ++ (R.drop j ++ S)))) W ∧ Outside (· = g) w W
def SymOf (G : World → Prop) (g : Nat) (N : Int) (p1 p2 : Nat) (lt : Int → Int → Bool) (len d : Nat) : Prop :=
  ∀ a m b P L R S W, b - a < d → G W → TwoAt g N lt a m b len P L R S W → Calls Try.prog 59 #[.slice (some ⟨g, 0, none⟩) len len, .int .i64 (a : Int), .int .i64 (m : Int), .int .i64 (b : Int), cmpV p1 p2] W (RetPerm g lt P (L ++ R) S W)
section
variable {G : World → Prop} {g : Nat} {N : Int} {p1 p2 : Nat} {lt : Int → Int → Bool} {a m b mid s e len : Nat} {P L R S : List Int} {w W : World} {fv : Value}
theorem parts_rot (h : TwoAt g N lt a m b len P L R S w) (hc : CutAt lt a m b mid s e L R) (h1 : s < m) (h2 : m < e) (hW : ArrAt g (P ++ (L ++ (R ++ S))) W) (hO : Outside (· = g) w W) :
    Calls Try.prog 60 #[.slice (some ⟨g, 0, none⟩) len len, .int .i64 (s : Int), .int .i64 (m : Int), .int .i64 (e : Int), fv] W (fun e' W' => e' = .returned (.tuple #[]) ∧ Parts1 g P L R S (s - a) (e - m) w W') := by
  have a1 := h.hP
  have a2 := h.hL
  have a3 := h.hR
  have a4 := hc.hs
  have a5 := hc.heb
  have hL := List.take_append_drop (s - a) L
  have hR := List.take_append_drop (e - m) R
  have hl := h.hlen
  have heq : P ++ (L ++ (R ++ S)) = (P ++ L.take (s - a)) ++ (L.drop (s - a) ++ (R.take (e - m) ++ (R.drop (e - m) ++ S))) := by
    rw [List.append_assoc, ← List.append_assoc (L.take _), hL, ← List.append_assoc (R.take _), hR]
  refine (rotate_any g s m e len (P ++ L.take (s - a)) (L.drop (s - a)) (R.take (e - m)) (R.drop (e - m) ++ S) fv W (by rw [← heq]; exact hW) ?_ ?_ ?_ ?_ ?_ (by rw [← heq]; exact hl) h.small).mono ?_
  · rw [List.length_append, List.length_take]; omega
  · rw [List.length_drop]; omega
  · rw [List.length_take]; omega
  · rw [List.length_drop]; omega
  · rw [List.length_take]; omega
  · rintro e' W' ⟨rfl, h1, h2⟩
    exact ⟨rfl, by simpa only [List.append_assoc] using h1, hO.trans h2 (fun b _ hb => hb)⟩
theorem parts_still (h : TwoAt g N lt a m b len P L R S w) (hc : CutAt lt a m b mid s e L R) (h1 : ¬ (s < m ∧ m < e)) (hW : ArrAt g (P ++ (L ++ (R ++ S))) W) (hO : Outside (· = g) w W) : Parts1 g P L R S (s - a) (e - m) w W := by
  refine ⟨?_, hO⟩
  have a2 := h.hL
  have a4 := hc.hsm
  have a5 := hc.hme
  have hL := List.take_append_drop (s - a) L
  have hR := List.take_append_drop (e - m) R
  rcases Nat.lt_or_ge s m with h2 | h2
  · have h3 : e - m = 0 := by omega
    rw [h3]
    rw [List.take_zero, List.nil_append, List.drop_zero, ← List.append_assoc (L.take _), hL]
    exact hW
  · have h3 : L.drop (s - a) = [] := List.drop_of_length_le (by omega)
    rw [h3] at hL ⊢
    rw [List.append_nil] at hL
    rw [hL, List.nil_append, ← List.append_assoc (R.take _), hR]
    exact hW
theorem parts1_len (h : TwoAt g N lt a m b len P L R S w) (i j : Nat) : (P ++ (L.take i ++ (R.take j ++ (L.drop i ++ (R.drop j ++ S))))).length = len := by
  rw [← h.hlen]
  simp only [List.length_append, List.length_take, List.length_drop]
  omega
theorem parts_one (hK : CmpOK G g N p1 p2 lt) (hS : SymOf G g N p1 p2 lt len (b - a)) (hGw : G w) (h : TwoAt g N lt a m b len P L R S w) (hc : CutAt lt a m b mid s e L R) (hmid : mid < b) (h1 : a < s) (h2 : s < mid) (hW : Parts1 g P L R S (s - a) (e - m) w W) :
    Calls Try.prog 59 #[.slice (some ⟨g, 0, none⟩) len len, .int .i64 (a : Int), .int .i64 (s : Int), .int .i64 (mid : Int), cmpV p1 p2] W (fun e' W' => e' = .returned (.tuple #[]) ∧ Parts2 g lt P L R S (s - a) (e - m) w W') := by
  have a1 := h.hP
  have a2 := h.hL
  have a3 := h.hR
  have a4 := hc.hsum
  have a5 := hc.heb
  have a6 := hc.hsm
  have hT : TwoAt g N lt a s mid len P (L.take (s - a)) (R.take (e - m)) (L.drop (s - a) ++ (R.drop (e - m) ++ S)) W := by
    refine ⟨hW.1, h.hP, ?_, ?_, ?_, ?_, h.sL.sublist (List.take_sublist _ _), h.sR.sublist (List.take_sublist _ _), fun x hx y hy => h.LR x (List.mem_of_mem_take hx) y (List.mem_of_mem_take hy), fun x hx => h.lo x (List.mem_of_mem_take hx), fun y hy => h.hi y (List.mem_of_mem_take hy), parts1_len h _ _, h.small⟩
    all_goals rw [List.length_take]; omega
  refine (hS a s mid _ _ _ _ W (by omega) (hK.keep _ _ hGw hW.2) hT).mono ?_
  rintro e' W' ⟨M, p, q, rfl, h5, h6⟩
  exact ⟨rfl, M, p, q, h5, hW.2.trans h6 (fun b _ hb => hb)⟩
theorem parts_none1 (h : TwoAt g N lt a m b len P L R S w) (hc : CutAt lt a m b mid s e L R) (h1 : ¬ (a < s ∧ s < mid)) (hW : Parts1 g P L R S (s - a) (e - m) w W) : Parts2 g lt P L R S (s - a) (e - m) w W := by
  refine ⟨_, List.Perm.refl _, srt_one (h.sL.sublist (List.take_sublist _ _)) (h.sR.sublist (List.take_sublist _ _)) ?_, by rw [List.append_assoc]; exact hW.1, hW.2⟩
  have a4 := hc.hsum
  have a6 := hc.hs
  have a7 := hc.hme
  rcases Nat.lt_or_ge a s with h2 | h2
  · exact .inr (by rw [show e - m = 0 by omega, List.take_zero])
  · exact .inl (by rw [show s - a = 0 by omega, List.take_zero])
theorem parts_two (hK : CmpOK G g N p1 p2 lt) (hS : SymOf G g N p1 p2 lt len (b - a)) (hGw : G w) (h : TwoAt g N lt a m b len P L R S w) (hc : CutAt lt a m b mid s e L R) (hmid : a < mid) (hmb : mid < b) (h1 : mid < e) (h2 : e < b) (hW : Parts2 g lt P L R S (s - a) (e - m) w W) :
    Calls Try.prog 59 #[.slice (some ⟨g, 0, none⟩) len len, .int .i64 (mid : Int), .int .i64 (e : Int), .int .i64 (b : Int), cmpV p1 p2] W (RetPerm g lt P (L ++ R) S w) := by
  have a1 := h.hP
  have a2 := h.hL
  have a3 := h.hR
  have a4 := hc.hsum
  have a5 := hc.hme
  have a6 := hc.hs
  have a7 := hc.hsm
  obtain ⟨M1, p, q, hA, hO⟩ := hW
  have hM1 : M1.length = (s - a) + (e - m) := by rw [p.length_eq, List.length_append, List.length_take, List.length_take]; omega
  have hl := parts1_len h (s - a) (e - m)
  have hT : TwoAt g N lt mid e b len (P ++ M1) (L.drop (s - a)) (R.drop (e - m)) S W := by
    refine ⟨by rw [List.append_assoc]; exact hA, ?_, ?_, ?_, ?_, ?_, h.sL.sublist (List.drop_sublist _ _), h.sR.sublist (List.drop_sublist _ _), fun x hx y hy => h.LR x (List.mem_of_mem_drop hx) y (List.mem_of_mem_drop hy), fun x hx => h.lo x (List.mem_of_mem_drop hx), fun y hy => h.hi y (List.mem_of_mem_drop hy), ?_, h.small⟩
    · rw [List.length_append]; omega
    · rw [List.length_drop]; omega
    · rw [List.length_drop]; omega
    · rw [List.length_drop]; omega
    · rw [List.length_drop]; omega
    · have h9 := p.length_eq
      simp only [List.length_append] at hl h9 ⊢
      omega
  refine (hS mid e b _ _ _ _ W (by omega) (hK.keep _ _ hGw hO) hT).mono ?_
  rintro e' W' ⟨M2, p2, q2, rfl, h5, h6⟩
  have hm := merged h.sL h.sR p p2 q q2 hc.LR hc.RL
  exact ⟨M1 ++ M2, hm.2, hm.1, rfl, by simpa only [List.append_assoc] using h5, hO.trans h6 (fun b _ hb => hb)⟩
theorem parts_none2 (h : TwoAt g N lt a m b len P L R S w) (hc : CutAt lt a m b mid s e L R) (h1 : ¬ (mid < e ∧ e < b)) (hW : Parts2 g lt P L R S (s - a) (e - m) w W) : RetPerm g lt P (L ++ R) S w (.returned (.tuple #[])) W := by
  obtain ⟨M1, p, q, hA, hO⟩ := hW
  have a1 := h.hP
  have a2 := h.hL
  have a3 := h.hR
  have a4 := hc.hsum
  have a5 := hc.hme
  have a6 := hc.hs
  have a7 := hc.hsm
  have a8 := hc.heb
  have hm := merged h.sL h.sR p (List.Perm.refl (L.drop (s - a) ++ R.drop (e - m))) q (srt_one (h.sL.sublist (List.drop_sublist _ _)) (h.sR.sublist (List.drop_sublist _ _)) (by
    rcases Nat.lt_or_ge mid e with h2 | h2
    · exact .inr (List.drop_of_length_le (by omega))
    · exact .inl (List.drop_of_length_le (by omega)))) hc.LR hc.RL
  exact ⟨_, hm.2, hm.1, rfl, by simpa only [List.append_assoc] using hA, hO⟩
end
end Go.Proofs.Ytbnbeailbhnbdaa
