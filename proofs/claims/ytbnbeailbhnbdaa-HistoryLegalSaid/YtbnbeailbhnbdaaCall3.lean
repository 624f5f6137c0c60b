/-
  numbers: calls by client and beginning.
-/
import Derived.Test.YtbnbeailbhnbdaaCall2
import Derived.Deep.OwnRows
set_option linter.unusedVariables false
set_option linter.unusedSimpArgs false
namespace Go.Proofs.Ytbnbeailbhnbdaa
open Go.RowKit

/-- By three numbers, then by place. -/
def ltK (k1 k2 k3 : Int → Int) (x y : Int) : Bool := decide (k1 x < k1 y ∨ (k1 x = k1 y ∧ (k2 x < k2 y ∨ (k2 x = k2 y ∧ (k3 x < k3 y ∨ (k3 x = k3 y ∧ x < y))))))
theorem ltK_lo (k1 k2 k3 : Int → Int) : LO (ltK k1 k2 k3) where
  irr x := by simp [ltK]
  tr x y z h1 h2 := by
    simp only [ltK, decide_eq_true_eq] at *
    omega
  tot x y h := by
    simp only [ltK, decide_eq_true_eq]
    omega
def czero : CV := ⟨0, 0, 0, 0, 0, false, 0, 0, 0, 0, .slice none 0 0, .slice none 0 0⟩
def atC (cs : List CV) (x : Int) : CV := cs.getD x.toNat czero
def ltR (cs : List CV) : Int → Int → Bool := ltK (fun x => (atC cs x).client) (fun x => (atC cs x).beg) (fun _ => 0)
theorem or2_lt (a b c d : Int) : orL [cmpI a b, cmpI c d] < 0 ↔ a < b ∨ (a = b ∧ c < d) := by
  rcases Int.lt_trichotomy a b with h | h | h <;> rcases Int.lt_trichotomy c d with k | k | k
  all_goals
    have h1 : a < b ∨ ¬ a < b := by omega
    have h2 : b < a ∨ ¬ b < a := by omega
    have h3 : c < d ∨ ¬ c < d := by omega
    have h4 : d < c ∨ ¬ d < c := by omega
    rcases h1 with h1 | h1 <;> rcases h2 with h2 | h2 <;> rcases h3 with h3 | h3 <;> rcases h4 with h4 | h4
    all_goals first
      | omega
      | (simp [orL, cmpI, h1, h2, h3, h4]; done)
      | (simp [orL, cmpI, h1, h2, h3, h4]; omega)
theorem byR_lt (cs : List CV) {x y : Int} (h : y < x) : decide (byR (atC cs x) (atC cs y) < 0) = ltR cs x y := by
  unfold byR ltR ltK
  refine decide_eq_decide.2 ?_
  rw [or2_lt]
  dsimp only
  omega
/-- What numbers' comparison needs. -/
def GR (p1 p2 gc : Nat) (f : FuncId) (caps : Array Value) (A : Option Addr) (n cp : Nat) (cs : List CV) (W : World) : Prop :=
  W.cell? ⟨p1, 0, none⟩ = some (.func (.func f) #[] caps) ∧ W.cell? ⟨p2, 0, none⟩ = some (.slice A n cp) ∧ CallsAt gc cs W
theorem GR.out {p1 p2 gc g : Nat} {f : FuncId} {caps : Array Value} {A : Option Addr} {n cp : Nat} {cs : List CV} {W W' : World} (h : GR p1 p2 gc f caps A n cp cs W) (hO : Outside (· = g) W W') (h1 : p1 ≠ g) (h2 : p2 ≠ g) (h3 : gc ≠ g) : GR p1 p2 gc f caps A n cp cs W' := by
  have hc : ∀ (p : Addr) v, p.block ≠ g → W.cell? p = some v → W'.cell? p = some v := by
    intro p v hp hv
    have hl := World.block_lt_of_cell? _ _ hv
    have h2 := hO.block p.block hl hp
    rw [← hv]
    simp only [World.cell?, h2]
  exact ⟨hc _ _ h1 h.1, hc _ _ h2 h.2.1, h.2.2.out hO h3⟩
theorem cmpR_ok {p1 p2 gc g : Nat} {A : Option Addr} {n cp : Nat} {cs : List CV} (h1 : p1 ≠ g) (h2 : p2 ≠ g) (h3 : gc ≠ g) (hn : cs.length = n) (hm : n ≤ 140737488355328) (hA : 0 < n → A = some ⟨gc, 0, none⟩) :
    CmpOK (GR p1 p2 gc 47 #[] A n cp cs) g (n : Int) p1 p2 (ltR cs) where
  keep W W' h hO := h.out hO h1 h2 h3
  call W x y h hy hyx hx := by
    obtain rfl := hA (by omega)
    obtain ⟨xn, rfl⟩ : ∃ k : Nat, x = (k : Int) := ⟨x.toNat, by omega⟩
    obtain ⟨yn, rfl⟩ : ∃ k : Nat, y = (k : Int) := ⟨y.toNat, by omega⟩
    have hget : ∀ k : Nat, k < n → cs[k]? = some (atC cs (k : Int)) := by
      intro k hk
      unfold atC
      rw [Int.toNat_natCast, List.getD_eq_getElem?_getD, List.getElem?_eq_getElem (by omega)]
      rfl
    refine (num1_any W h.1 h.2.1 h.2.2 hm xn yn (by omega) (by omega) _ _ (hget xn (by omega)) (hget yn (by omega))).mono ?_
    rintro e w' ⟨rfl, hb⟩
    exact ⟨_, rfl, byR_lt cs hyx, hb⟩
theorem fill_step (n k : Nat) (hk : k < n) : (ival 0 k ++ List.replicate (n - k) (0 : Int)).set k (k : Int) = ival 0 (k + 1) ++ List.replicate (n - (k + 1)) 0 := by
  have h1 : n - k = (n - (k + 1)) + 1 := by omega
  have h2 : (ival 0 k).length = k := by rw [ival_length]; omega
  rw [h1, List.replicate_succ]
  have := set_at (ival 0 k) [] (List.replicate (n - (k + 1)) 0) 0 (k : Int)
  rw [h2] at this
  rw [this, ival_split (a := 0) (m := k) (b := k + 1) (by omega) (by omega), List.append_assoc]
  congr 1
  simp [ival]
/-- A new row of numbers. -/
def RetRow (ds : List Int) (w : World) (e : Ending) (w' : World) : Prop := ∃ g, e = .returned (.slice (some ⟨g, 0, none⟩) ds.length ds.length) ∧ ArrAt g ds w' ∧ w.heap.size ≤ g ∧ Below w.heap.size w w'
set_option maxHeartbeats 4000000 in
theorem numbers_right {gc : Nat} {A : Option Addr} {n cp : Nat} {cs : List CV} (w : World) (hn : cs.length = n) (hm : n ≤ 100000) (hA : 0 < n → A = some ⟨gc, 0, none⟩) (hcs : CallsAt gc cs w) (hgc : gc < w.heap.size) :
    Calls Try.prog 37 #[.slice A n cp, .func (.func 47) #[] #[]] w (RetRow (srtI (ltR cs) 0 n) w) := by
  have HN := Lib.hid hn
  have HAA := Lib.hid hA
  have HCS := Lib.hid hcs
  clear hn hA hcs
  have hmk := run_make_row' (P := Try.prog) 41 3 (.int .i64 0) 8 Try.underlying41 (by kernel_rfl) rfl .i64 .i64 n (by omega) (by omega)
  obtain ⟨W, hW⟩ : ∃ W, ((w.alloc (.cells #[.slice A n cp] 45)).alloc (.cells #[.func (.func 47) #[] #[]] 80)) = W := ⟨_, rfl⟩
  have hbW : Below w.heap.size w W := by rw [← hW]; exact ((Below.refl w.heap.size w).alloc (Nat.le_refl _) _).alloc (by simp) _
  have hzW : W.heap.size = w.heap.size + 2 := by rw [← hW]; simp
  obtain ⟨W2, hW2⟩ : ∃ W2, W.alloc (.cells (madeCells #[.int .i64 0] n) 3) = W2 := ⟨_, rfl⟩
  have hbW2 : Below W.heap.size W W2 := by rw [← hW2]; exact (Below.refl _ _).alloc (Nat.le_refl _) _
  have x1 : W.cell? ⟨w.heap.size, 0, none⟩ = some (.slice A n cp) := by rw [← hW]; simp
  have x2 : W.cell? ⟨w.heap.size + 1, 0, none⟩ = some (.func (.func 47) #[] #[]) := by rw [← hW]; simp
  have y1 : W2.cell? ⟨w.heap.size, 0, none⟩ = some (.slice A n cp) := (hbW2.cell (World.block_lt_of_cell? _ _ x1)).trans x1
  have y2 : W2.cell? ⟨w.heap.size + 1, 0, none⟩ = some (.func (.func 47) #[] #[]) := (hbW2.cell (World.block_lt_of_cell? _ _ x2)).trans x2
  have ha : ArrAt W.heap.size (List.replicate n 0) W2 := by
    rw [← hW2]
    show (W.heap.push _)[W.heap.size]? = _
    have : madeCells #[Value.int .i64 0] n = ((List.replicate n (0 : Int)).map i64v).toArray := by
      apply Array.ext'
      rw [toList_madeCells_one]
      simp [i64v]
    rw [this]
    simp
  obtain ⟨g0, hg0⟩ : ∃ g0, w.heap.size = g0 := ⟨_, rfl⟩
  obtain ⟨g, hg⟩ : ∃ g, g0 + 1 + 1 = g := ⟨_, rfl⟩
  rw [hzW, hg0, hg] at ha
  rw [hg0] at y1 y2 hzW hgc
  have HGR : Hid (GR (g0 + 1) g0 gc 47 #[] A n cp cs W2) := Lib.hid ⟨y2, y1, (HCS.out.below hbW).below hbW2⟩
  have HB2 : Hid (Below w.heap.size w W2) := Lib.hid (below_step hbW hbW.size hbW2)
  have HW := Lib.hid hW
  have HW2 := Lib.hid hW2
  have HGG := Lib.hid hg
  have HST : Hid (∃ k : Nat, Value.int .i64 0 = .int .i64 (k : Int) ∧ k ≤ n ∧ ArrAt g (ival 0 k ++ List.replicate (n - k) 0) W2 ∧ Outside (· = g) W2 W2) := Lib.hid ⟨0, rfl, Nat.zero_le _, by rw [ival_nil (Nat.le_refl _)]; exact ha, Outside.refl _ _⟩
  clear hbW hbW2 hW hW2 x1 x2 y1 y2 ha hg
  go_enter Try.func37, Try.ntmps37
  go_wp2_with fail
  rw [HW.out, HW2.out, HGG.out]
  have hg := HGG.out
  go_loopw [12] (fun s wr => ∃ k : Nat, s = .int .i64 (k : Int) ∧ k ≤ n ∧ ArrAt g (ival 0 k ++ List.replicate (n - k) 0) wr ∧ Outside (· = g) W2 wr) (fun s _ => n - (intOf s).toNat)
  case atStart => exact HST.out
  case round =>
    obtain ⟨k, rfl, hk, harr, hout⟩ := hrel
    have HA := Lib.hid harr
    have HO := Lib.hid hout
    by_cases hlt : k < n
    · have hki : (k : Int) < (n : Int) := by omega
      have hl : k < (ival 0 k ++ List.replicate (n - k) (0 : Int)).length := by rw [List.length_append, ival_length, List.length_replicate]; omega
      have hc := harr.cell hl
      have hf := harr.frozen k
      clear harr hout hl
      go_wp2_with fail
      go_roundw
      case rel =>
        refine ⟨k + 1, by go_num, hlt, ?_, HO.out.set _ _ (.inr rfl)⟩
        rw [← fill_step n k hlt]
        exact HA.out.set k _
      case measure => simp [intOf] <;> omega
    · obtain rfl : k = n := by omega
      have hki : ¬ (k : Int) < (k : Int) := by omega
      have ha : ArrAt g (ival 0 k) wr := by
        have := HA.out
        rwa [Nat.sub_self, List.replicate_zero, List.append_nil] at this
      have HA2 := Lib.hid ha
      clear harr hout ha
      go_wp2_with (first
        | (go_at_call 52; refine (sort_any (p1 := g0 + 1) (p2 := g0) (cmpR_ok (g := g) (by omega) (by omega) (by omega) HN.out (by omega) HAA.out) (ltK_lo _ _ _) (HGR.out.out HO.out (by omega) (by omega) (by omega)) HA2.out (by omega)).mono ?_; rintro e w1 ⟨rfl, ha1, ho1⟩; have HA3 := Lib.hid ha1; have HO3 := Lib.hid ho1; clear ha1 ho1)
        | fail)
      go_ret
      have hs : (srtI (ltR cs) 0 k).length = k := by rw [srtI_length, Nat.sub_zero]
      refine ⟨g, by rw [hs]; rfl, HA3.out, by omega, ?_⟩
      have h1 := HO.out.trans HO3.out (fun b _ hb => hb)
      exact HB2.out.trans (h1.below (B := w.heap.size) (fun b hb => by omega) HB2.out.size)
end Go.Proofs.Ytbnbeailbhnbdaa
