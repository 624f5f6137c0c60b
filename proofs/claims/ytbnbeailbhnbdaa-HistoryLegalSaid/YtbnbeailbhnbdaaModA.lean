/-
  Models in memory: Start, Next, New, Trim.
-/
import Derived.Test.YtbnbeailbhnbdaaQueue
import Derived.Test.YtbnbeailbhnbdaaClone
import Derived.Test.YtbnbeailbhnbdaaStep
import Derived.Test.YtbnbeailbhnbdaaOut
set_option linter.unusedVariables false
set_option linter.unusedSimpArgs false
namespace Go.Proofs.Ytbnbeailbhnbdaa
open Go.RowKit

/-- l[k:]. -/
theorem ownsQ.drop {w : World} {base n size : Nat} {e : TypeId} {v : Value} {xs : List Value} {P : Program} (t : TypeId) (ht : P.underlying t = some (.slice (P.elem t))) (hs : (P.info? (P.elem t)).map (·.size) = some size) {g o cap : Nat} (h : ownsQ w base e size (.slice (some ⟨g, o, none⟩) n cap) n xs) (k : Nat) (hk : k ≤ n) :
    ∃ X, (∀ W : World, (Instr.slice t (.slice (some ⟨g, o, none⟩) n cap) (some (.int .i64 (k : Int))) none none).run P W = .ok (.slice (some X) (n - k) (cap - k)) W) ∧ X.block = g ∧ ownsQ w base e size (.slice (some X) (n - k) (cap - k)) (n - k) (xs.drop (k * size)) := by
  obtain ⟨X, hX, eX⟩ := slice_from (P := P) t size ht hs ⟨g, o, none⟩ n cap k (k : Int) rfl hk
  have hlen : (xs.drop (k * size)).length = (n - k) * size := by rw [List.length_drop, h.1, Nat.sub_mul]
  rcases h.2 with ⟨hv, _⟩ | ⟨g', o', cap', cur, hv, hg, hh, h3, h4, h5, h6⟩
  · cases hv
  · cases hv
    by_cases hc : cap = k
    · rw [if_pos hc] at eX
      refine ⟨X, hX, by rw [eX], hlen, .inr ⟨g, o, cap - k, cur, by rw [eX], hg, hh, by omega, by omega, by rw [hc, Nat.sub_self, Nat.zero_mul]; omega, ?_⟩⟩
      have hn : n = k := by omega
      have h0 : xs.drop (k * size) = [] := List.drop_of_length_le (by rw [h.1, hn]; exact Nat.le_refl _)
      rw [h0, hn, Nat.sub_self, Nat.zero_mul, List.take_zero]
    · rw [if_neg hc, add_raw] at eX
      refine ⟨X, hX, by rw [eX], hlen, .inr ⟨g, o + k * size, cap - k, cur, by rw [eX], hg, hh, by omega, by omega, ?_, ?_⟩⟩
      · have : cap * size = (cap - k) * size + k * size := by rw [← Nat.add_mul]; congr 1; omega
        omega
      · rw [← h6, List.drop_take, List.drop_drop, Nat.sub_mul]
/-- A row of bytes in memory, in a row of its own among the blocks of S. -/
def byRow (S : Nat → Prop) (W : World) (b : List UInt8) (cs : List Value) : Prop :=
  ∃ A c, cs = [.slice A b.length c] ∧ W.ownsRow 0 5 1 (.slice A b.length c) b.length (u8s b) ∧ ∀ k, (Value.slice A b.length c).ownBlock = some k → S k
def modObj (ty : TypeId) (first : Nat) (A : Option Addr) (n c : Nat) : Obj := .cells #[.int .i64 (first : Int), .slice A n c] ty (0, 0)
/-- A model in memory, in the blocks of S. -/
def ModAt (ty : TypeId) (S : Nat → Prop) (g first : Nat) (l : List (List UInt8)) (W : World) : Prop :=
  ∃ A c cells, W.heap[g]? = some (modObj ty first A l.length c) ∧ S g ∧ ownsQ W 0 30 1 (.slice A l.length c) l.length cells ∧ (∀ b, (Value.slice A l.length c).ownBlock = some b → S b) ∧ Recs (byRow S) 1 W l cells
section
variable {ty : TypeId} {S : Nat → Prop} {g first : Nat} {l : List (List UInt8)} {W W' : World}
theorem mod_cells {A : Option Addr} {n c : Nat} (h : W.heap[g]? = some (modObj ty first A n c)) : W.cell? ⟨g, 0, none⟩ = some (.int .i64 (first : Int)) ∧ W.cell? ⟨g, 1, none⟩ = some (.slice A n c) ∧ ∀ j, W.frozen? ⟨g, j, none⟩ = false := by
  unfold modObj at h
  refine ⟨by rw [cell_of_row W g 0 _ _ _ h]; rfl, by rw [cell_of_row W g 1 _ _ _ h]; rfl, fun j => by simp [World.frozen?, h]⟩
theorem q_block_lt {base n size : Nat} {e : TypeId} {v : Value} {xs : List Value} (h : ownsQ W base e size v n xs) {b : Nat} (hb : v.ownBlock = some b) : b < W.heap.size := by
  rcases h.2 with ⟨rfl, _⟩ | ⟨g, o, cap, cur, rfl, _, hh, _⟩
  · simp [Value.ownBlock] at hb
  · simp [Value.ownBlock] at hb
    subst hb
    exact (Array.getElem?_eq_some_iff.1 hh).1
theorem q_same {base n size : Nat} {e : TypeId} {v : Value} {xs : List Value} (h : ownsQ W base e size v n xs) (hb : ∀ b, v.ownBlock = some b → W'.heap[b]? = W.heap[b]?) : ownsQ W' base e size v n xs := by
  refine ⟨h.1, ?_⟩
  rcases h.2 with h2 | ⟨g, o, cap, cur, rfl, hg, hh, r⟩
  · exact .inl h2
  · exact .inr ⟨g, o, cap, cur, rfl, hg, (hb g rfl).trans hh, r⟩
theorem ModAt.keep (h : ModAt ty S g first l W) (hk : ∀ b, b < W.heap.size → S b → W'.heap[b]? = W.heap[b]?) : ModAt ty S g first l W' := by
  obtain ⟨A, c, cells, h1, h2, h3, h4, h5⟩ := h
  refine ⟨A, c, cells, (hk g (Array.getElem?_eq_some_iff.1 h1).1 h2).trans h1, h2, q_same h3 (fun b hb => hk b (q_block_lt h3 hb) (h4 b hb)), h4, h5.imp fun j x cs _ hl => ?_⟩
  obtain ⟨A1, c1, e, ho, hs⟩ := hl
  exact ⟨A1, c1, e, own_same ho (fun b hb => hk b (own_block_ge ho b hb).2 (hs b hb)), hs⟩
theorem ModAt.below (h : ModAt ty S g first l W) (hb : Below W.heap.size W W') : ModAt ty S g first l W' := h.keep fun b hlt _ => hb.block b hlt
theorem ModAt.mono {T : Nat → Prop} (h : ModAt ty S g first l W) (hT : ∀ b, S b → T b) : ModAt ty T g first l W := by
  obtain ⟨A, c, cells, h1, h2, h3, h4, h5⟩ := h
  refine ⟨A, c, cells, h1, hT g h2, h3, fun b hb => hT b (h4 b hb), h5.imp fun j x cs _ hl => ?_⟩
  obtain ⟨A1, c1, e, ho, hs⟩ := hl
  exact ⟨A1, c1, e, ho, fun b hb => hT b (hs b hb)⟩
end
theorem start_any {S : Nat → Prop} {g first : Nat} {l : List (List UInt8)} (w : World) (h : ModAt 61 S g first l w) :
    Calls Try.prog 18 #[.pointer (some ⟨g, 0, none⟩)] w fun e w' => e = .returned (.int .i64 (first : Int)) ∧ w = w' := by
  obtain ⟨A, c, cells, h1, _⟩ := h
  obtain ⟨k0, k1, _⟩ := mod_cells h1
  clear h1
  go_enter Try.func18, Try.ntmps18
  go_wp2
  go_ret
  exact ⟨rfl, rfl⟩
theorem next_any {S : Nat → Prop} {g first : Nat} {l : List (List UInt8)} (w : World) (h : ModAt 61 S g first l w) (hf : first ≤ 140737488355328) (hl : l.length ≤ 140737488355328) :
    Calls Try.prog 19 #[.pointer (some ⟨g, 0, none⟩)] w fun e w' => e = .returned (.int .i64 ((first + l.length : Nat) : Int)) ∧ Below w.heap.size w w' := by
  obtain ⟨A, c, cells, h1, _⟩ := h
  obtain ⟨k0, k1, _⟩ := mod_cells h1
  obtain ⟨n, hn⟩ : ∃ n, l.length = n := ⟨_, rfl⟩
  rw [hn] at k1 hl ⊢
  have d0 : w.drew.cell? ⟨g, 0, none⟩ = some (.int .i64 (first : Int)) := k0
  have d1 : w.drew.cell? ⟨g, 1, none⟩ = some (.slice A n c) := k1
  have e1 : IntKind.i64.wrap ((first : Int) + (n : Int)) = (first : Int) + (n : Int) := IntWalk.i64_in _ (by omega)
  clear h1 hn
  go_enter Try.func19, Try.ntmps19
  go_wp2_with fail
  go_quiet (fail)
  go_wp2_with fail
  go_ret
  exact ⟨by simp, below_draws (Below.refl _ _) nq⟩
theorem refnext_any {S : Nat → Prop} {g first : Nat} {l : List (List UInt8)} (w : World) (h : ModAt 28 S g first l w) (hf : first ≤ 140737488355328) (hl : l.length ≤ 140737488355328) :
    Calls Try.prog 20 #[.pointer (some ⟨g, 0, none⟩)] w fun e w' => e = .returned (.int .i64 ((first + l.length : Nat) : Int)) ∧ Below w.heap.size w w' := by
  obtain ⟨A, c, cells, h1, _⟩ := h
  obtain ⟨k0, k1, _⟩ := mod_cells h1
  obtain ⟨n, hn⟩ : ∃ n, l.length = n := ⟨_, rfl⟩
  rw [hn] at k1 hl ⊢
  have d0 : w.drew.cell? ⟨g, 0, none⟩ = some (.int .i64 (first : Int)) := k0
  have d1 : w.drew.cell? ⟨g, 1, none⟩ = some (.slice A n c) := k1
  have e1 : IntKind.i64.wrap ((first : Int) + (n : Int)) = (first : Int) + (n : Int) := IntWalk.i64_in _ (by omega)
  clear h1 hn
  go_enter Try.func20, Try.ntmps20
  go_wp2_with fail
  go_quiet (fail)
  go_wp2_with fail
  go_ret
  exact ⟨by simp, below_draws (Below.refl _ _) nq⟩
end Go.Proofs.Ytbnbeailbhnbdaa
/-
  A row of rows that is appended to; Put.
-/
set_option linter.unusedVariables false
set_option linter.unusedSimpArgs false
namespace Go.Proofs.Ytbnbeailbhnbdaa
open Go.RowKit

section
variable {P : Program}
theorem run_append_q2 (w : World) (base : Nat) (t ty e : TypeId) (i : TypeInfo) (z : Value) (size bytes : Nat) (ht : P.underlying t = some (.slice e)) (hi : P.info? e = some i) (hz : i.zero = some z)
    (hsize : i.size = size) (hby : i.bytes = bytes) (hzs : z.cells.size = size) (hsz : 0 < size) (v : Value) (n : Nat) (xs : List Value) (hown : ownsQ w base e size v n xs)
    (a : Addr) (m c : Nat) (news : List Value) (hl : news.length = m * size) (hnews : ∀ j u, news[j]? = some u → w.cell? (a.add j) = some u) (h1 : ∀ u ∈ news, u.oneCell' = true) (hm : 0 < m)
    (h63 : n + m ≤ maxLen) (hbytes : (n + m) * bytes ≤ 140737488355328) (hbase : base ≤ w.heap.size) :
    ∃ A' c' w', (Builtin.append_ #[t, t] ty #[v, .slice (some a) m c]).run P w = .ok (.slice A' (n + m) c') w' ∧ ownsQ w' base e size (.slice A' (n + m) c') (n + m) (xs ++ news) ∧ w.grownBy w' v.ownBlock ∧ ((Value.slice A' (n + m) c').ownBlock = v.ownBlock ∨ (Value.slice A' (n + m) c').ownBlock = some w.heap.size) := by
  subst hsize
  subst hby
  have hsmall : n + m ≤ 9223372036854775807 := by simp only [maxLen] at h63; omega
  have hlen : (xs ++ news).length = (n + m) * i.size := by rw [List.length_append, hown.1, hl, Nat.add_mul]
  have grown : ∀ (old : Nat), old < n + m → ∀ (row : Option Nat),
      ownsQ (w.drew.alloc (.cells (xs.toArray ++ news.toArray ++ Builtin.zeroCells z.cells (grownCap w (n + m) old e - (n + m))) e)) base e i.size
        (.slice (some ⟨w.heap.size, 0, none⟩) (n + m) (grownCap w (n + m) old e)) (n + m) (xs ++ news) ∧
      w.grownBy (w.drew.alloc (.cells (xs.toArray ++ news.toArray ++ Builtin.zeroCells z.cells (grownCap w (n + m) old e - (n + m))) e)) row := by
    intro old ho row
    have hge := grownCap_ge w (n + m) old e
    have hcm : grownCap w (n + m) old e ≤ maxLen := grownCap_le_maxLen w (n + m) old e h63
    refine ⟨⟨hlen, .inr ⟨w.heap.size, 0, _, _, rfl, hbase, heap_alloc_new w.drew _, hge, hcm, ?_, ?_⟩⟩, ⟨rfl, rfl, rfl, by simp, fun k hk _ => (Below.heap_alloc w.drew _ k hk)⟩⟩
    · simp only [Array.size_append, List.size_toArray, size_zeroCells, hzs, hown.1, hl, ← Nat.add_mul]
      rw [Nat.zero_add]
      refine Nat.mul_le_mul_right _ ?_
      omega
    · simp only [Array.toList_append, List.append_assoc, List.drop_zero]
      rw [← List.append_assoc, ← hlen]
      exact List.take_left
  rcases hown.2 with ⟨rfl, rfl⟩ | ⟨g, o, cap, cur, rfl, hbg, hg, hnc, hcm, hcs, htake⟩
  · have hx : xs = [] := List.eq_nil_of_length_eq_zero (by simpa using hown.1)
    subst hx
    have hr := run_append_nil (P := P) w t ty e i z ht hi hz a m c news hl hnews (by omega) (by omega) (by have hb := hbytes; simp only [Nat.zero_add] at hb; omega)
    have hgr := grown 0 (by omega) (Value.ownBlock (.slice none 0 0))
    simp only [Nat.zero_add, List.nil_append, Array.empty_append] at hgr ⊢
    exact ⟨_, _, _, hr, hgr.1, hgr.2, .inr rfl⟩
  · by_cases hroom : n + m ≤ cap
    · have hmul : n * i.size + m * i.size ≤ cap * i.size := by rw [← Nat.add_mul]; exact Nat.mul_le_mul_right _ hroom
      have hfit : o + n * i.size + 0 + news.length ≤ cur.size := by rw [hl]; omega
      have hf := run_firstCells_some (P := P) w i.size m a m c news hl hnews
      have hst := run_storeCells_at (P := P) g (o + n * i.size) e news 0 cur w hg hfit h1
      simp only [Nat.add_zero] at hst
      have hr : (Builtin.append_ #[t, t] ty #[.slice (some ⟨g, o, none⟩) n cap, .slice (some a) m c]).run P w = .ok (.slice (some ⟨g, o, none⟩) (n + m) cap) (w.setRow g (cur.toList.take (o + n * i.size) ++ news ++ cur.toList.drop (o + n * i.size + news.length)).toArray) := by
        simp only [List.append_assoc] at hst ⊢
        simp [Builtin.append_, run_underlying ht, sizeOf, typeInfo, hi, Builtin.lenOf, hroom, hf, add_raw, hst]
      have hxl : n * i.size ≤ cur.toList.length - o := by simp; omega
      refine ⟨_, _, _, hr, ⟨hlen, .inr ⟨g, o, cap, _, rfl, hbg, setRow_heap w g cur _ e _ hg, hroom, hcm, ?_, ?_⟩⟩, ⟨rfl, rfl, rfl, by simp, fun k _ hk => setRow_other w g k _ (fun e => hk (by simp [Value.ownBlock, e]))⟩, .inl rfl⟩
      · simp only [List.size_toArray, List.length_append, List.length_take, List.length_drop, Array.length_toList]
        omega
      · have e1 : cur.toList.take (o + n * i.size) = cur.toList.take o ++ xs := by rw [List.take_add, htake]
        have e2 : (cur.toList.take o).length = o := by simp; omega
        rw [e1, List.append_assoc, List.append_assoc, List.drop_left' e2, ← List.append_assoc, ← hlen]
        exact List.take_left
    · have holds : ∀ j u, xs[j]? = some u → w.cell? ((⟨g, o, none⟩ : Addr).add j) = some u := by
        intro j u hj
        rw [add_raw, cell_of_row w g (o + j) cur e (0, 0) hg]
        rw [← htake, List.getElem?_take] at hj
        split at hj
        · rw [List.getElem?_drop] at hj
          simpa using hj
        · cases hj
      have hr := run_append_grow (P := P) w t ty e i z ht hi hz ⟨g, o, none⟩ n cap xs hown.1 holds a m c news hl hnews (by omega) (by omega) (growslice_fits (by omega) hbytes)
      have hgr := grown cap (by omega) (Value.ownBlock (.slice (some ⟨g, o, none⟩) n cap))
      exact ⟨_, _, _, hr, hgr.1, hgr.2, .inr rfl⟩
theorem step_append_q {ops : Array Oper} {o : Oper} {a : Act} {K : Act → World → Prop} {Q : Exit → Act → World → Prop} {E : Prop} {w : World} (hgd : o.guard = none) (s x : Operand) (t : TypeId)
    (ho : o.op = .call { callee := .builtin .append, args := #[s, x], argTypes := #[t, t] }) (base : Nat) (e : TypeId) (z : Value) (size bytes : Nat) (ht : P.underlying t = some (.slice e))
    (hinfo : (P.info? e).map (fun i => (i.zero, i.size, i.bytes)) = some (some z, size, bytes)) (hzs : z.cells.size = size) (hsz : 0 < size)
    (v : Value) (n : Nat) (xs : List Value) (hs : a.eval s = v) (hown : ownsQ w base e size v n xs)
    (ad : Addr) (m c : Nat) (news : List Value) (hx : a.eval x = .slice (some ad) m c) (hl : news.length = m * size) (hnews : Sees w (some ad) news) (h1 : ∀ u ∈ news, u.oneCell' = true) (hm : 0 < m)
    (h63 : n + m ≤ maxLen) (hbytes : (n + m) * bytes ≤ 140737488355328) (hbase : base ≤ w.heap.size)
    (h : ∀ A' c' w', ownsQ w' base e size (.slice A' (n + m) c') (n + m) (xs ++ news) → w.grownBy w' v.ownBlock → ((Value.slice A' (n + m) c').ownBlock = v.ownBlock ∨ (Value.slice A' (n + m) c').ownBlock = some w.heap.size) →
      K (a.put o.dst (.slice A' (n + m) c')) w') :
    if Region.wanted o (yielded ops a.tmps) = true then Oper.wp P o a w K Q else E := by
  have hw : Region.wanted o (yielded ops a.tmps) = true := by simp [Region.wanted, hgd]
  rw [if_pos hw]
  obtain ⟨i, hi, hz, hs', hb⟩ := info_three hinfo
  obtain ⟨A', c', w', hr, h2, h3, h4⟩ := run_append_q2 (P := P) w base t o.type e i z size bytes ht hi hz hs' hb hzs hsz v n xs hown ad m c news hl (fun j u hj => by obtain ⟨ad', e', hc⟩ := hnews j u hj; cases e'; exact hc) h1 hm h63 hbytes hbase
  unfold Oper.wp execOp
  simp only [ho, resolve, invoke, builtin, Sem.run_bind, Sem.run_pure, Result.andThen_ok, List.map_toArray, List.map_cons, List.map_nil, hs, hx, hr]
  exact h A' c' w' h2 h3 h4
end
theorem infoBytes : (Try.prog.info? 30).map (fun i => (i.zero, i.size, i.bytes)) = some (some (.slice none 0 0), 1, 24) := by kernel_rfl
theorem q_apart {w : World} {base n size g : Nat} {e ty : TypeId} {v : Value} {xs : List Value} {cs : Array Value} (h : ownsQ w base e size v n xs) (hg : w.heap[g]? = some (.cells cs ty (0, 0))) (hne : e ≠ ty) : v.ownBlock ≠ some g := by
  intro eb
  rcases h.2 with ⟨rfl, _⟩ | ⟨g1, o1, cap1, cur1, rfl, _, hh1, _⟩
  · simp [Value.ownBlock] at eb
  · obtain rfl : g1 = g := by simpa [Value.ownBlock] using eb
    rw [hg] at hh1
    injection hh1 with hh1
    injection hh1 with _ ht
    exact hne ht.symm
theorem own_far {w : World} {base n size g : Nat} {e ty : TypeId} {v : Value} {xs : List Value} {cs : Array Value} (h : w.ownsRow base e size v n xs) (hg : w.heap[g]? = some (.cells cs ty (0, 0))) (hne : e ≠ ty) : v.ownBlock ≠ some g := by
  intro eb
  rcases h.2 with ⟨rfl, _⟩ | ⟨g1, cap1, cur1, rfl, _, hh1, _⟩
  · simp [Value.ownBlock] at eb
  · obtain rfl : g1 = g := by simpa [Value.ownBlock] using eb
    rw [hg] at hh1
    injection hh1 with hh1
    injection hh1 with _ ht
    exact hne ht.symm
theorem own_apartq {w w1 : World} {b b' s s' n n' : Nat} {e e' : TypeId} {v v' : Value} {xs xs' : List Value} (h : w.ownsRow b e s v n xs) (h' : ownsQ w b' e' s' v' n' xs') (hne : e ≠ e') (hg : w.grownBy w1 v'.ownBlock) : w1.ownsRow b e s v n xs := by
  refine own_same h fun k hk => hg.block k (own_block_ge h k hk).2 fun eq => ?_
  rcases h.2 with ⟨rfl, _⟩ | ⟨g1, cap1, cur1, rfl, _, hh1, _⟩
  · simp [Value.ownBlock] at hk
  · obtain rfl : g1 = k := by simpa [Value.ownBlock] using hk
    exact q_apart h' hh1 (Ne.symm hne) eq.symm
/-- A record has been put. -/
theorem put_done {ty : TypeId} {S : Nat → Prop} {g first : Nat} {l : List (List UInt8)} {bs : List UInt8} {w W w4 w6 : World} {R : Option Addr} {cr : Nat} {cells : List Value} {A4 : Option Addr} {c4 : Nat} {A6 : Option Addr} {c6 : Nat}
    (h1 : w.heap[g]? = some (modObj ty first R l.length cr)) (h2 : S g) (h3 : ownsQ w 0 30 1 (.slice R l.length cr) l.length cells) (h4 : ∀ b, (Value.slice R l.length cr).ownBlock = some b → S b) (h5 : Recs (byRow S) 1 w l cells)
    (ht1 : 30 ≠ ty) (ht2 : 5 ≠ ty)
    (hBW : Below w.heap.size w W) (hb4 : Below W.heap.size W w4) (hown4 : w4.ownsRow W.heap.size 5 1 (.slice A4 bs.length c4) bs.length (u8s bs))
    (hown6 : ownsQ w6 0 30 1 (.slice A6 (l.length + 1) c6) (l.length + 1) (cells ++ [.slice A4 bs.length c4])) (hg6 : (w4.alloc (.cells #[.slice A4 bs.length c4] 30)).grownBy w6 (Value.slice R l.length cr).ownBlock)
    (hat6 : (Value.slice A6 (l.length + 1) c6).ownBlock = (Value.slice R l.length cr).ownBlock ∨ (Value.slice A6 (l.length + 1) c6).ownBlock = some (w4.alloc (.cells #[.slice A4 bs.length c4] 30)).heap.size)
    (z1 : w6.heap[g]? = some (modObj ty first R l.length cr)) :
    ModAt ty (Plus S w) g first (l ++ [bs]) (w6.setCell ⟨g, 1, none⟩ (.slice A6 (l.length + 1) c6)) ∧ Outside S w (w6.setCell ⟨g, 1, none⟩ (.slice A6 (l.length + 1) c6)) := by
  have hB4 := below_step hBW hBW.size hb4
  have hz := hB4.size
  have hzW := hBW.size
  have ho4 : ownsQ (w4.alloc (.cells #[.slice A4 bs.length c4] 30)) 0 30 1 (.slice R l.length cr) l.length cells := (h3.keep hB4).keep ((Below.refl _ _).alloc (Nat.le_refl _) _)
  have hlen : (l ++ [bs]).length = l.length + 1 := by simp
  have hrow : (w6.setCell ⟨g, 1, none⟩ (.slice A6 (l.length + 1) c6)).heap[g]? = some (modObj ty first A6 (l.length + 1) c6) := by
    simp [World.setCell, Array.getElem?_modify, z1, modObj]
  have hkeep : ∀ {b n : Nat} {v : Value} {xs : List Value}, w4.ownsRow b 5 1 v n xs → (w6.setCell ⟨g, 1, none⟩ (.slice A6 (l.length + 1) c6)).ownsRow b 5 1 v n xs := fun h => by
    have h7 := own_apartq (own_alloc' h (.cells #[.slice A4 bs.length c4] 30)) ho4 (by decide) hg6
    exact own_setFar h7 _ _ (own_far h7 z1 ht2)
  refine ⟨⟨A6, c6, cells ++ [.slice A4 bs.length c4], by rw [hlen]; exact hrow, .inl h2, by rw [hlen]; exact q_same hown6 (fun b hb => Below.heap_setCell w6 ⟨g, 1, none⟩ _ b (fun e => q_apart hown6 z1 ht1 (by rw [hb, e]))), ?_, ?_⟩, ?_⟩
  · intro b hb
    rw [hlen] at hb
    rcases hat6 with h | h
    · exact .inl (h4 b (by rw [← h]; exact hb))
    · rw [hb] at h
      have h := Option.some.inj h
      refine .inr ?_
      rw [h]
      simp
      omega
  · refine (h5.imp fun j x cs _ hl => ?_).snoc rfl ⟨A4, c4, rfl, own_lower (hkeep hown4) (Nat.zero_le _), fun b hb => .inr (Nat.le_trans hzW (own_block_ge hown4 b hb).1)⟩
    obtain ⟨A1, c1, e, ho, hs⟩ := hl
    exact ⟨A1, c1, e, hkeep (own_keep ho hB4), fun b hb => .inl (hs b hb)⟩
  · have hba := hB4.alloc hB4.size (.cells #[.slice A4 bs.length c4] 30)
    refine ⟨hg6.os.trans hba.os, hg6.tape.trans hba.tape, hg6.output.trans hba.output, Nat.le_trans hba.size (by simpa [World.setCell] using hg6.size), fun b hb hs => ?_⟩
    rw [Below.heap_setCell w6 ⟨g, 1, none⟩ _ b (fun e => hs (by rw [e]; exact h2))]
    exact (hg6.block b (Nat.lt_of_lt_of_le hb hba.size) (fun e => hs (h4 b e.symm))).trans (hba.block b hb)
/-- An answer, and the model as it then is. -/
def RetMod (ty : TypeId) (S : Nat → Prop) (g first : Nat) (l : List (List UInt8)) (v : Int) (w : World) (e : Ending) (w' : World) : Prop := e = .returned (.int .i64 v) ∧ ModAt ty (Plus S w) g first l w' ∧ Outside S w w'
set_option maxHeartbeats 2000000 in
theorem put_any {S : Nat → Prop} {g first : Nat} {l : List (List UInt8)} (A : Option Addr) (bs : List UInt8) (c : Nat) (w : World) (h : ModAt 61 S g first l w) (hf : first ≤ 140737488355328) (hl : l.length ≤ 4398046511104) (hc : bs.length ≤ c) (hbl : bs.length ≤ 140737488355328) (hA : Sees w A (u8s bs)) :
    Calls Try.prog 11 #[.pointer (some ⟨g, 0, none⟩), .slice A bs.length c] w (RetMod 61 S g first (l ++ [bs]) ((first + l.length : Nat) : Int) w) := by
  obtain ⟨R, cr, cells, h1, h2, h3, h4, h5⟩ := id h
  obtain ⟨k0, k1, kf⟩ := mod_cells h1
  have hgl := (Array.getElem?_eq_some_iff.1 h1).1
  have hS : ∀ W', Below w.heap.size w W' → W'.cell? ⟨g, 1, none⟩ = some (.slice R l.length cr) := fun W' hb => (hb.cell (World.block_lt_of_cell? _ _ k1)).trans k1
  have hn1 := Lib.hid h
  go_enter Try.func11, Try.ntmps11
  go_wp2_with fail
  have k2 := hS w.drew (Below.refl _ _).drew
  go_region_law
    (first
      | (go_simp; go_at_call 29; refine (clone_u8 A bs c _ hc hbl (by exact hA)).mono ?_; rintro e w4 ⟨A4, c4, rfl, hown4, hb4'⟩; have hb4 : Below w.heap.size w w4 := ⟨hb4'.os, hb4'.tape, hb4'.output, hb4'.size, hb4'.block⟩; have k4 := hS w4 hb4; have k5 := hS _ (hb4.alloc hb4.size (.cells #[.slice A4 bs.length c4] 30)))
      | (refine step_append_q rfl (.tmp 11) (.tmp 14) 26 (by rfl) 0 30 (.slice none 0 0) 1 24 Try.underlying26 infoBytes rfl (by decide) (.slice R l.length cr) l.length cells (by rfl) (by exact (h3.keep hb4).keep ((Below.refl _ _).alloc (Nat.le_refl _) _)) ⟨w4.heap.size, 0, none⟩ 1 1 [.slice A4 bs.length c4] (by rfl) (by rfl) (by exact sees_new _ _ _) (by simp [Value.oneCell']) (by decide) (by simp only [maxLen]; omega) (by omega) (Nat.zero_le _) ?_; intro A6 c6 w6 hown6 hg6 hat6; have hba := hb4.alloc hb4.size (.cells #[.slice A4 bs.length c4] 30); have hza := hba.size; have z1 : w6.heap[g]? = some (modObj 61 first R l.length cr) := (hg6.block g (Nat.lt_of_lt_of_le hgl hza) (fun e => q_apart h3 h1 (by decide) e.symm)).trans ((hba.block g hgl).trans h1); have z2 := (mod_cells z1).2.1; have z3 := (mod_cells z1).2.2 1)
      | fail)
  all_goals (have hd := put_done h1 h2 h3 h4 h5 (by decide) (by decide) (Below.refl _ _) hb4 hown4 hown6 hg6 hat6 z1)
  all_goals (have HD := Lib.hid hd; clear hd h1 h2 h3 h4 h5 k0 k1 k2 k4 k5 kf hS hown4 hown6 hb4 hb4' hg6 hat6 hba hza z1 z2 z3 hA)
  all_goals go_wp2_with (first
    | (go_at_call 19; refine (next_any _ HD.out.1 hf (by simp only [List.length_append, List.length_cons, List.length_nil]; omega)).mono ?_; rintro e w7 ⟨rfl, hb7⟩; rw [show ((first + (l ++ [bs]).length : Nat) : Int) = ((first + l.length : Nat) : Int) + 1 by simp only [List.length_append, List.length_cons, List.length_nil]; omega])
    | fail)
  all_goals go_ret
  all_goals (refine ⟨by simp, HD.out.1.below hb7, HD.out.2.trans (Outside.of_below hb7) (fun b _ hb => hb)⟩)
end Go.Proofs.Ytbnbeailbhnbdaa
/-
  The reference's Put.
-/
set_option linter.unusedVariables false
set_option linter.unusedSimpArgs false
namespace Go.Proofs.Ytbnbeailbhnbdaa
open Go.RowKit

set_option maxHeartbeats 4000000 in
theorem refput_any {S : Nat → Prop} {g first : Nat} {l : List (List UInt8)} (A : Option Addr) (bs : List UInt8) (c : Nat) (w : World) (h : ModAt 28 S g first l w) (hf : first ≤ 140737488355328) (hl : l.length ≤ 4398046511104) (hc : bs.length ≤ c) (hbl : bs.length ≤ 140737488355328) (hA : Sees w A (u8s bs)) :
    Calls Try.prog 12 #[.pointer (some ⟨g, 0, none⟩), .slice A bs.length c] w (RetMod 28 S g first (l ++ [bs]) ((first + l.length : Nat) : Int) w) := by
  obtain ⟨R, cr, cells, h1, h2, h3, h4, h5⟩ := id h
  obtain ⟨k0, k1, kf⟩ := mod_cells h1
  have hgl := (Array.getElem?_eq_some_iff.1 h1).1
  have hS : ∀ W', Below w.heap.size w W' → W'.cell? ⟨g, 1, none⟩ = some (.slice R l.length cr) := fun W' hb => (hb.cell (World.block_lt_of_cell? _ _ k1)).trans k1
  have hba0 : Below w.heap.size w (w.alloc (.cells #[] 5)).drew := ((Below.refl w.heap.size w).alloc (Nat.le_refl _) _).drew
  have k2 := hS w.drew (Below.refl _ _).drew
  have k3 := hS _ hba0
  have hn1 := Lib.hid h
  go_enter Try.func12, Try.ntmps12
  go_wp2_with fail
  go_region_law
    (first
      | (refine step_append_sees rfl (.tmp 10) (.tmp 11) 30 (by rfl) w.heap.size 5 (.int .u8 0) 1 1 Try.underlying30 infoU8 rfl (by decide) (.slice (some ⟨w.heap.size, 0, none⟩) 0 0) 0 [] (by rfl) (by exact own_made0 w _ 1) A bs.length c (u8s bs) (by rfl) (by simp [u8s]) (by exact hA.below hba0) (u8s_one _) (by simp only [maxLen]; omega) (by omega) (by simp) ?_; intro A4 c4 w4 hown4' hg4 hat4; have hb4 : Below w.heap.size w w4 := below_grown_own hba0 (by simp) (own_made0 w 5 1) (Nat.le_refl _) hg4; have hown4 : w4.ownsRow w.heap.size 5 1 (.slice A4 bs.length c4) bs.length (u8s bs) := (by simpa using hown4'); have k4 := hS w4 hb4; have k5 := hS _ (hb4.alloc hb4.size (.cells #[.slice A4 bs.length c4] 30)))
      | (refine step_append_q rfl (.tmp 9) (.tmp 13) 26 (by rfl) 0 30 (.slice none 0 0) 1 24 Try.underlying26 infoBytes rfl (by decide) (.slice R l.length cr) l.length cells (by rfl) (by exact (h3.keep hb4).keep ((Below.refl _ _).alloc (Nat.le_refl _) _)) ⟨w4.heap.size, 0, none⟩ 1 1 [.slice A4 bs.length c4] (by rfl) (by rfl) (by exact sees_new _ _ _) (by simp [Value.oneCell']) (by decide) (by simp only [maxLen]; omega) (by omega) (Nat.zero_le _) ?_; intro A6 c6 w6 hown6 hg6 hat6; have hba := hb4.alloc hb4.size (.cells #[.slice A4 bs.length c4] 30); have hza := hba.size; have z1 : w6.heap[g]? = some (modObj 28 first R l.length cr) := (hg6.block g (Nat.lt_of_lt_of_le hgl hza) (fun e => q_apart h3 h1 (by decide) e.symm)).trans ((hba.block g hgl).trans h1); have z2 := (mod_cells z1).2.1; have z3 := (mod_cells z1).2.2 1)
      | fail)
  all_goals (have hd := put_done h1 h2 h3 h4 h5 (by decide) (by decide) (Below.refl _ _) hb4 hown4 hown6 hg6 hat6 z1)
  all_goals (have HD := Lib.hid hd; clear hd h1 h2 h3 h4 h5 k0 k1 k2 k3 k4 k5 kf hS hown4 hown4' hown6 hb4 hg4 hat4 hg6 hat6 hba hza z1 z2 z3 hA hba0)
  all_goals go_wp2_with (first
    | (go_at_call 20; refine (refnext_any _ HD.out.1 hf (by simp only [List.length_append, List.length_cons, List.length_nil]; omega)).mono ?_; rintro e w7 ⟨rfl, hb7⟩; rw [show ((first + (l ++ [bs]).length : Nat) : Int) = ((first + l.length : Nat) : Int) + 1 by simp only [List.length_append, List.length_cons, List.length_nil]; omega])
    | fail)
  all_goals go_ret
  all_goals (refine ⟨by simp, HD.out.1.below hb7, HD.out.2.trans (Outside.of_below hb7) (fun b _ hb => hb)⟩)
end Go.Proofs.Ytbnbeailbhnbdaa
