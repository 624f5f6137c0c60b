/-
  The law package's 'row': frames put one behind the other.
-/
import Derived.Test.YtfbcdlbcdaobcaaSame
set_option linter.unusedVariables false
set_option linter.unusedSimpArgs false
namespace Go.Proofs.Ytfbcdlbcdaobcaa
open Go.RowKit

/-- A frame that can be put. -/
def good (f : Int × List UInt8) : Prop := 0 ≤ f.1 ∧ f.1 ≤ 255 ∧ f.2.length ≤ 65536
def ku (f : Int × List UInt8) : UInt8 × List UInt8 := (UInt8.ofNat f.1.toNat, f.2)
def ends (ys : List (UInt8 × List UInt8)) : List Value := (List.range ys.length).map fun i => .int .i64 (size (ys.take (i + 1)) : Int)
theorem ends_snoc (ys : List (UInt8 × List UInt8)) (y : UInt8 × List UInt8) : ends (ys ++ [y]) = ends ys ++ [.int .i64 (size (ys ++ [y]) : Int)] := by
  unfold ends
  rw [List.length_append, List.length_singleton, List.range_succ, List.map_append]
  congr 1
  · apply List.map_congr_left
    intro i hi
    rw [List.mem_range] at hi
    rw [List.take_append_of_le_length (by omega)]
  · simp only [List.map_cons, List.map_nil]
    rw [List.take_of_length_le (by simp)]
theorem ends_length (ys : List (UInt8 × List UInt8)) : (ends ys).length = ys.length := by simp [ends]
theorem size_most (ys : List (UInt8 × List UInt8)) (h : ∀ f ∈ ys, f.2.length ≤ 65536) : size ys ≤ ys.length * 65545 := by
  induction ys with
  | nil => simp [size]
  | cons y l ih =>
    have h1 := ih (fun f hf => h f (List.mem_cons_of_mem _ hf))
    have h2 := h y List.mem_cons_self
    rw [size_cons, List.length_cons, Nat.add_mul]
    omega
/-- What row hands back. -/
def RetRow (w : World) (xs : List (Int × List UInt8)) (e : Ending) (w' : World) : Prop :=
  (e = .returned (.tuple #[.slice none 0 0, .slice none 0 0, .bool false]) ∧ (¬ ∀ f ∈ xs.take 50, good f) ∧ Below w.heap.size w w') ∨
  ∃ A c B d, e = .returned (.tuple #[.slice A (size ((xs.take 50).map ku)) c, .slice B ((xs.take 50).map ku).length d, .bool true]) ∧ (∀ f ∈ xs.take 50, good f) ∧
    w'.ownsRow w.heap.size 5 1 (.slice A (size ((xs.take 50).map ku)) c) (size ((xs.take 50).map ku)) (u8s (enc ((xs.take 50).map ku))) ∧
    w'.ownsRow w.heap.size 3 1 (.slice B ((xs.take 50).map ku).length d) ((xs.take 50).map ku).length (ends ((xs.take 50).map ku)) ∧ Below w.heap.size w w'
/-- Between two rounds. -/
def rowRel (w : World) (xs : List (Int × List UInt8)) (b es i : Value) (W : World) : Prop :=
  ∃ (k n : Nat) (A : Option Addr) (c : Nat) (B : Option Addr) (d : Nat), k ≤ xs.length ∧ k ≤ 50 ∧ i = .int .i64 (k : Int) ∧ Hid (∀ f ∈ xs.take k, good f) ∧ Hid (n = size ((xs.take k).map ku)) ∧ n ≤ k * 65545 ∧ b = .slice A n c ∧ es = .slice B k d ∧
    W.ownsRow w.heap.size 5 1 (.slice A n c) n (u8s (enc ((xs.take k).map ku))) ∧ W.ownsRow w.heap.size 3 1 (.slice B k d) k (ends ((xs.take k).map ku)) ∧ Below w.heap.size w W
theorem infoInt : (Try.prog.info? 3).map (fun i => (i.zero, i.size, i.bytes)) = some (some (.int .i64 0), 1, 8) := by kernel_rfl

set_option maxHeartbeats 4000000 in
theorem row_any (xs : List (Int × List UInt8)) (A : Option Addr) (c : Nat) (cells : List Value) (w : World) (hl : xs.length ≤ 140737488355328) (hd : ∀ f ∈ xs, f.2.length ≤ 140737488355328) (hA : Sees w A cells) (rA : Recs frSeen 2 w xs cells) :
    Calls Try.prog 17 #[.slice A xs.length c] w (RetRow w xs) := by
  have H := Lib.hid hA
  have R := Lib.hid rA
  have HD := Lib.hid hd
  clear hA rA hd
  go_enter Try.func17, Try.ntmps17
  go_wp2
  go_loopw [5, 6, 7] (fun b es i wr => rowRel w xs b es i wr) (fun _ _ i _ => xs.length - (intOf i).toNat)
  case atStart => exact ⟨0, 0, none, 0, none, 0, Nat.zero_le _, Nat.zero_le _, rfl, Lib.hid (by simp), Lib.hid (by simp [size]), by omega, rfl, rfl, ⟨rfl, .inl ⟨rfl, rfl⟩⟩, ⟨rfl, .inl ⟨rfl, rfl⟩⟩, Below.refl _ _⟩
  case round =>
    obtain ⟨k, n, Ab, cb, Be, ce, hk, hk50, rfl, HG, HN, hn, rfl, rfl, hob, hoe, hb⟩ := hrel
    by_cases hend : k < xs.length ∧ k < 50
    case neg =>
      have htk : xs.take 50 = xs.take k := by
        by_cases h1 : k < xs.length
        · have : k = 50 := by omega
          rw [this]
        · rw [List.take_of_length_le (by omega), List.take_of_length_le (by omega)]
      have HT := Lib.hid htk
      clear htk
      have fin : RetRow w xs (.returned (.tuple #[.slice Ab n cb, .slice Be k ce, .bool true])) wr := by
        refine .inr ⟨Ab, cb, Be, ce, ?_, ?_, ?_, ?_, hb⟩
        · rw [HT.out, ← HN.out]
          simp [Nat.min_eq_left hk]
        · rw [HT.out]; exact HG.out
        · rw [HT.out, ← HN.out]; exact hob
        · rw [HT.out, List.length_map, List.length_take, Nat.min_eq_left hk]; exact hoe
      have FIN := Lib.hid fin
      clear fin
      by_cases h1 : k < xs.length
      · have h2 : ¬ k < 50 := fun h => hend ⟨h1, h⟩
        clear hend
        go_wp2
        go_ret3
        exact FIN.out
      · clear hend
        go_wp2
        go_ret3
        exact FIN.out
    obtain ⟨hlt, hlt50⟩ := hend
    obtain ⟨ad, A1, c1, rfl, a1, a2, a3⟩ := frSeen_at H.out R.out k hlt
    have hmem := HD.out xs[k] (List.getElem_mem hlt)
    obtain ⟨f, hf⟩ : ∃ f, xs[k] = f := ⟨_, rfl⟩
    rw [hf] at a1 a2 a3 hmem
    obtain ⟨kind, data⟩ := f
    simp only at a1 a2 a3 hmem
    have htk : xs.take (k + 1) = xs.take k ++ [(kind, data)] := by rw [List.take_succ_eq_append_getElem hlt, hf]
    have hm50 : (kind, data) ∈ xs.take 50 := by
      rw [← hf]
      have : (xs.take 50)[k]'(by rw [List.length_take]; omega) ∈ xs.take 50 := List.getElem_mem _
      rwa [List.getElem_take] at this
    have HT := Lib.hid htk
    have HM := Lib.hid hm50
    clear htk hm50 hf
    have a2' : w.cell? ⟨(ad.add (k * 2)).block, (ad.add (k * 2)).off + 1, none⟩ = some (.slice A1 data.length c1) := by rw [← add_pos _ 1 (by omega), add_at]; exact a2
    have hS1 : ∀ W', Below w.heap.size w W' → W'.cell? (ad.add (k * 2)) = some (.int .i64 kind) := fun W' hb' => (hb'.cell (World.block_lt_of_cell? w _ a1)).trans a1
    have hS2 : ∀ W', Below w.heap.size w W' → W'.cell? ⟨(ad.add (k * 2)).block, (ad.add (k * 2)).off + 1, none⟩ = some (.slice A1 data.length c1) := fun W' hb' => (hb'.cell (World.block_lt_of_cell? w _ a2')).trans a2'
    have hD := a3.below hb
    have hb0 : Below wr.heap.size wr (wr.alloc (.cells #[] 5)).drew := ((Below.refl _ _).alloc (Nat.le_refl _) _).drew
    have hb0' : Below wr.heap.size wr (wr.alloc (.cells #[] 5)) := (Below.refl _ _).alloc (Nat.le_refl _) _
    have hz := hb.size
    have hB0 := below_step hb hz hb0
    have hB0' := below_step hb hz hb0'
    have U := Lib.hid (u8s_length data)
    have i0 : (0 : Int) ≤ (k : Int) := by omega
    have i1 : (k : Int) < (xs.length : Int) := by omega
    have i2 : (k : Int) < 50 := by omega
    have bad : ¬ good (kind, data) → ∀ W', Below w.heap.size w W' → RetRow w xs (.returned (.tuple #[.slice none 0 0, .slice none 0 0, .bool false])) W' := fun hb W' hB => .inl ⟨rfl, fun h => hb (h _ HM.out), hB⟩
    have BAD := Lib.hid bad
    clear bad a1 a2 a2' a3
    by_cases hkind : kind < 0 ∨ 255 < kind
    · have HK := Lib.hid hkind
      have hng := Lib.hid (BAD.out (fun h => by have := h.1; have := h.2.1; omega))
      clear hkind
      go_wp2
      go_region_held3 (fun W' => W'.cell? (ad.add (k * 2)) = some (.int .i64 kind) ∧ W'.cell? ⟨(ad.add (k * 2)).block, (ad.add (k * 2)).off + 1, none⟩ = some (.slice A1 data.length c1)) (first
          | exact ⟨hS1 _ hb.drew, hS2 _ hb.drew⟩
          | exact ⟨hS1 _ hB0, hS2 _ hB0⟩
          | exact ⟨hS1 _ hB0', hS2 _ hB0'⟩
          | exact ⟨hS1 _ hB3, hS2 _ hB3⟩
          | fail)
        (first
          | (refine step_append_sees rfl (.tmp 26) (.tmp 31) 22 (by rfl) wr.heap.size 5 (.int .u8 0) 1 1 Try.underlying22 infoU8 rfl (by decide) (.slice (some ⟨wr.heap.size, 0, none⟩) 0 0) 0 [] (by rfl) (by exact own_made0 wr 5 1) A1 data.length c1 (u8s data) (by rfl) (by rw [U.out, Nat.mul_one]) (by exact hD.below hb0) (u8s_one _) (by simp only [maxLen]; omega) (by omega) (by simp) ?_; intro A3 c3 W3 hown3 hg3 hat3; have hb3 : Below wr.heap.size wr W3 := below_grown_own hb0 (by simp) (own_made0 wr 5 1) (Nat.le_refl _) hg3; have hB3 := below_step hb hz hb3; simp only [Nat.zero_add, List.nil_append] at hown3)
          | (go_at_call 18; refine (put_arg _ _ _ kind _ HK.out).mono ?_; rintro e w' ⟨rfl, rfl⟩))
      go_wp2_with (first
        | (go_at_call 20; refine (num_any _ _).mono ?_; rintro e w' ⟨rfl, rfl⟩)
        | fail)
      go_ret3
      exact hng.out _ hB3
    have hk0 : 0 ≤ kind := by omega
    have hk1 : kind ≤ 255 := by omega
    clear hkind
    by_cases hsz : 65536 < data.length
    · have hng := Lib.hid (BAD.out (fun h => by have h2 : data.length ≤ 65536 := h.2.2; omega))
      go_wp2
      go_region_held3 (fun W' => W'.cell? (ad.add (k * 2)) = some (.int .i64 kind) ∧ W'.cell? ⟨(ad.add (k * 2)).block, (ad.add (k * 2)).off + 1, none⟩ = some (.slice A1 data.length c1)) (first
          | exact ⟨hS1 _ hb.drew, hS2 _ hb.drew⟩
          | exact ⟨hS1 _ hB0, hS2 _ hB0⟩
          | exact ⟨hS1 _ hB0', hS2 _ hB0'⟩
          | exact ⟨hS1 _ hB3, hS2 _ hB3⟩
          | fail)
        (first
          | (refine step_append_sees rfl (.tmp 26) (.tmp 31) 22 (by rfl) wr.heap.size 5 (.int .u8 0) 1 1 Try.underlying22 infoU8 rfl (by decide) (.slice (some ⟨wr.heap.size, 0, none⟩) 0 0) 0 [] (by rfl) (by exact own_made0 wr 5 1) A1 data.length c1 (u8s data) (by rfl) (by rw [U.out, Nat.mul_one]) (by exact hD.below hb0) (u8s_one _) (by simp only [maxLen]; omega) (by omega) (by simp) ?_; intro A3 c3 W3 hown3 hg3 hat3; have hb3 : Below wr.heap.size wr W3 := below_grown_own hb0 (by simp) (own_made0 wr 5 1) (Nat.le_refl _) hg3; have hB3 := below_step hb hz hb3; simp only [Nat.zero_add, List.nil_append] at hown3)
          | (go_at_call 18; refine (put_size _ _ _ kind _ hk0 hk1 hsz (by exact hmem)).mono ?_; rintro e w' ⟨rfl, rfl⟩))
      go_wp2_with (first
        | (go_at_call 20; refine (num_any _ _).mono ?_; rintro e w' ⟨rfl, rfl⟩)
        | fail)
      go_ret3
      exact hng.out _ hB3
    have hsz' : data.length ≤ 65536 := by omega
    clear hsz BAD
    obtain ⟨kd, rfl⟩ : ∃ kd : UInt8, kind = (kd.toNat : Int) := ⟨UInt8.ofNat kind.toNat, by rw [UInt8.toNat_ofNat', Nat.mod_eq_of_lt (by omega)]; omega⟩
    have hku : ku ((kd.toNat : Int), data) = (kd, data) := by simp [ku]
    have HKU := Lib.hid hku
    clear hku
    have hFL := Lib.hid (frameB_len kd data)
    have hgd : good ((kd.toNat : Int), data) := ⟨by omega, hk1, hsz'⟩
    have HGD := Lib.hid hgd
    clear hgd hk0
    go_wp2
    go_region_held3 (fun W' => W'.cell? (ad.add (k * 2)) = some (.int .i64 (kd.toNat : Int)) ∧ W'.cell? ⟨(ad.add (k * 2)).block, (ad.add (k * 2)).off + 1, none⟩ = some (.slice A1 data.length c1)) (first
        | exact ⟨hS1 _ hb.drew, hS2 _ hb.drew⟩
        | exact ⟨hS1 _ hB0, hS2 _ hB0⟩
        | exact ⟨hS1 _ hB0', hS2 _ hB0'⟩
        | exact ⟨hS1 _ hB3, hS2 _ hB3⟩
        | exact ⟨hS1 _ hB4, hS2 _ hB4⟩
        | fail)
      (first
        | (refine step_append_sees rfl (.tmp 26) (.tmp 31) 22 (by rfl) wr.heap.size 5 (.int .u8 0) 1 1 Try.underlying22 infoU8 rfl (by decide) (.slice (some ⟨wr.heap.size, 0, none⟩) 0 0) 0 [] (by rfl) (by exact own_made0 wr 5 1) A1 data.length c1 (u8s data) (by rfl) (by rw [U.out, Nat.mul_one]) (by exact hD.below hb0) (u8s_one _) (by simp only [maxLen]; omega) (by omega) (by simp) ?_; intro A3 c3 W3 hown3 hg3 hat3; have hb3 : Below wr.heap.size wr W3 := below_grown_own hb0 (by simp) (own_made0 wr 5 1) (Nat.le_refl _) hg3; have hB3 := below_step hb hz hb3; simp only [Nat.zero_add, List.nil_append] at hown3)
        | (go_at_call 18; refine (put_ok A3 kd data c3 _ (sees_own' hown3).2.1 hsz' (by exact (sees_own' hown3).2.2.2)).mono ?_; rintro e W4 ⟨A4, c4, rfl, hown4, hb4⟩; have hB4 := below_step hB3 hB3.size hb4))
    have k4 := hS2 _ hB4
    have hob4 := own_keep (own_keep hob hb3) hb4
    have hoe4 := own_keep (own_keep hoe hb3) hb4
    have hz4 := hB4.size
    go_wp2_with (first
      | (go_at_call 20; refine (num_any _ _).mono ?_; rintro e w' ⟨rfl, rfl⟩)
      | (at_builtin; go_loud (refine wpList_append_sees rfl (.tmp 51) (.tmp 52) 22 rfl w.heap.size 5 (.int .u8 0) 1 1 Try.underlying22 infoU8 rfl (by decide) (.slice Ab n cb) n _ rfl hob4 A4 (data.length + 9) c4 (u8s (frameB kd data)) rfl (by rw [u8s_length, hFL.out, Nat.mul_one]) (sees_own' hown4).2.2.2 (u8s_one _) (by simp only [maxLen]; omega) (by omega) hz4 ?_); intro A5 c5 W5 hown5 hg5 hat5; have hoe5 := own_apart hoe4 hob4 (by decide) hg5; have hB5 := below_grown_own hB4 hz4 hob4 (Nat.le_refl _) hg5; have hz5 := hB5.size)
      | (at_builtin; go_loud (refine wpList_append_sees rfl (.tmp 54) (.tmp 57) 39 rfl w.heap.size 3 (.int .i64 0) 1 8 Try.underlying39 infoInt rfl (by decide) (.slice Be k ce) k _ rfl (own_alloc' hoe5 _) (some ⟨W5.heap.size, 0, none⟩) 1 1 [.int .i64 ((n + (data.length + 9) : Nat) : Int)] rfl rfl (sees_new _ _ _) (by simp [Value.oneCell']) (by simp only [maxLen]; omega) (by omega) (by simp; omega) ?_); intro A6 c6 W6 hown6 hg6 hat6)
      | fail)
    go_roundw
    case rel =>
      have hys : (xs.take (k + 1)).map ku = (xs.take k).map ku ++ [(kd, data)] := by rw [HT.out, List.map_append, List.map_cons, List.map_nil, HKU.out]
      have hsn : n + (data.length + 9) = size ((xs.take (k + 1)).map ku) := by
        rw [hys, size_append, ← HN.out, size_cons]
        simp only [size, List.map_nil, List.sum_nil]
        omega
      refine ⟨k + 1, n + (data.length + 9), A5, c5, A6, c6, by omega, by omega, by go_num, ?_, Lib.hid hsn, ?_, rfl, rfl, ?_, ?_, ?_⟩
      · refine Lib.hid ?_
        intro f hf
        rw [HT.out, List.mem_append, List.mem_singleton] at hf
        rcases hf with hf | rfl
        · exact HG.out f hf
        · exact HGD.out
      · rw [Nat.add_mul]
        omega
      · have := own_apart (own_alloc' hown5 _) (own_alloc' hoe5 (.cells #[.int .i64 ((n + (data.length + 9) : Nat) : Int)] 3)) (by decide) hg6
        rw [hys, enc_append, u8s_append, enc_cons, show enc [] = [] from rfl, List.append_nil]
        exact this
      · rw [hys, ends_snoc, ← hys, ← hsn]
        exact hown6
      · exact below_grown_own (hB5.alloc hz5 _) (by simp; omega) (own_alloc' hoe5 _) (Nat.le_refl _) hg6
    case measure => simp [intOf]; omega
end Go.Proofs.Ytfbcdlbcdaobcaa
