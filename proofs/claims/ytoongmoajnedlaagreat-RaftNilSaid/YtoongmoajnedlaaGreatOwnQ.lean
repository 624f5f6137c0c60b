/-
  Rows of entries that are cut off behind and appended to.
-/
import Derived.Test.YtoongmoajnedlaaGreatQueue
import Derived.Test.YtoongmoajnedlaaGreatEOwn2
import Derived.Test.YtoongmoajnedlaaGreatStep
set_option linter.unusedVariables false
set_option linter.unusedSimpArgs false
namespace Go.Proofs.YtoongmoajnedlaaGreat
open Go.RowKit

section
variable {W W' : World}
theorem q_block_lt {base n size : Nat} {e : TypeId} {v : Value} {xs : List Value} (h : ownsQ W base e size v n xs) {b : Nat} (hb : v.ownBlock = some b) : b < W.heap.size := by
  rcases h.2 with ⟨rfl, _⟩ | ⟨g, o, cap, cur, rfl, _, hh, _⟩
  · simp [Value.ownBlock] at hb
  · simp [Value.ownBlock] at hb
    subst hb
    exact (Array.getElem?_eq_some_iff.1 hh).1
theorem q_same {base n size : Nat} {e : TypeId} {v : Value} {xs : List Value} (h : ownsQ W base e size v n xs) (hb : ∀ b, v.ownBlock = some b → W'.heap[b]? = W.heap[b]?) : ownsQ W' base e size v n xs := by
  refine ⟨h.1, ?_⟩
  rcases h.2 with h2 | ⟨g, o, cap, cur, rfl, hg, hh, r⟩
  · exact .inl h2
  · exact .inr ⟨g, o, cap, cur, rfl, hg, (hb g rfl).trans hh, r⟩
end
section
variable {P : Program}
theorem run_append_q2 (w : World) (base : Nat) (t ty e : TypeId) (i : TypeInfo) (z : Value) (size bytes : Nat) (ht : P.underlying t = some (.slice e)) (hi : P.info? e = some i) (hz : i.zero = some z)
    (hsize : i.size = size) (hby : i.bytes = bytes) (hzs : z.cells.size = size) (hsz : 0 < size) (v : Value) (n : Nat) (xs : List Value) (hown : ownsQ w base e size v n xs)
    (a : Addr) (m c : Nat) (news : List Value) (hl : news.length = m * size) (hnews : ∀ j u, news[j]? = some u → w.cell? (a.add j) = some u) (h1 : ∀ u ∈ news, u.oneCell' = true) (hm : 0 < m)
    (h63 : n + m ≤ maxLen) (hbytes : (n + m) * bytes ≤ 140737488355328) (hbase : base ≤ w.heap.size) :
    ∃ A' c' w', (Builtin.append_ #[t, t] ty #[v, .slice (some a) m c]).run P w = .ok (.slice A' (n + m) c') w' ∧ ownsQ w' base e size (.slice A' (n + m) c') (n + m) (xs ++ news) ∧ w.grownBy w' v.ownBlock ∧ ((Value.slice A' (n + m) c').ownBlock = v.ownBlock ∨ (Value.slice A' (n + m) c').ownBlock = some w.heap.size) := by
  subst hsize
  subst hby
  have hsmall : n + m ≤ 9223372036854775807 := by simp only [maxLen] at h63; omega
  have hlen : (xs ++ news).length = (n + m) * i.size := by rw [List.length_append, hown.1, hl, Nat.add_mul]
  have grown : ∀ (old : Nat), old < n + m → ∀ (row : Option Nat),
      ownsQ (w.drew.alloc (.cells (xs.toArray ++ news.toArray ++ Builtin.zeroCells z.cells (grownCap w (n + m) old e - (n + m))) e)) base e i.size
        (.slice (some ⟨w.heap.size, 0, none⟩) (n + m) (grownCap w (n + m) old e)) (n + m) (xs ++ news) ∧
      w.grownBy (w.drew.alloc (.cells (xs.toArray ++ news.toArray ++ Builtin.zeroCells z.cells (grownCap w (n + m) old e - (n + m))) e)) row := by
    intro old ho row
    have hge := grownCap_ge w (n + m) old e
    have hcm : grownCap w (n + m) old e ≤ maxLen := grownCap_le_maxLen w (n + m) old e h63
    refine ⟨⟨hlen, .inr ⟨w.heap.size, 0, _, _, rfl, hbase, heap_alloc_new w.drew _, hge, hcm, ?_, ?_⟩⟩, ⟨rfl, rfl, rfl, by simp, fun k hk _ => (Below.heap_alloc w.drew _ k hk)⟩⟩
    · simp only [Array.size_append, List.size_toArray, size_zeroCells, hzs, hown.1, hl, ← Nat.add_mul]
      rw [Nat.zero_add]
      refine Nat.mul_le_mul_right _ ?_
      omega
    · simp only [Array.toList_append, List.append_assoc, List.drop_zero]
      rw [← List.append_assoc, ← hlen]
      exact List.take_left
  rcases hown.2 with ⟨rfl, rfl⟩ | ⟨g, o, cap, cur, rfl, hbg, hg, hnc, hcm, hcs, htake⟩
  · have hx : xs = [] := List.eq_nil_of_length_eq_zero (by simpa using hown.1)
    subst hx
    have hr := run_append_nil (P := P) w t ty e i z ht hi hz a m c news hl hnews (by omega) (by omega) (by have hb := hbytes; simp only [Nat.zero_add] at hb; omega)
    have hgr := grown 0 (by omega) (Value.ownBlock (.slice none 0 0))
    simp only [Nat.zero_add, List.nil_append, Array.empty_append] at hgr ⊢
    exact ⟨_, _, _, hr, hgr.1, hgr.2, .inr rfl⟩
  · by_cases hroom : n + m ≤ cap
    · have hmul : n * i.size + m * i.size ≤ cap * i.size := by rw [← Nat.add_mul]; exact Nat.mul_le_mul_right _ hroom
      have hfit : o + n * i.size + 0 + news.length ≤ cur.size := by rw [hl]; omega
      have hf := run_firstCells_some (P := P) w i.size m a m c news hl hnews
      have hst := run_storeCells_at (P := P) g (o + n * i.size) e news 0 cur w hg hfit h1
      simp only [Nat.add_zero] at hst
      have hr : (Builtin.append_ #[t, t] ty #[.slice (some ⟨g, o, none⟩) n cap, .slice (some a) m c]).run P w = .ok (.slice (some ⟨g, o, none⟩) (n + m) cap) (w.setRow g (cur.toList.take (o + n * i.size) ++ news ++ cur.toList.drop (o + n * i.size + news.length)).toArray) := by
        simp only [List.append_assoc] at hst ⊢
        simp [Builtin.append_, run_underlying ht, sizeOf, typeInfo, hi, Builtin.lenOf, hroom, hf, add_raw, hst]
      have hxl : n * i.size ≤ cur.toList.length - o := by simp; omega
      refine ⟨_, _, _, hr, ⟨hlen, .inr ⟨g, o, cap, _, rfl, hbg, setRow_heap w g cur _ e _ hg, hroom, hcm, ?_, ?_⟩⟩, ⟨rfl, rfl, rfl, by simp, fun k _ hk => setRow_other w g k _ (fun e => hk (by simp [Value.ownBlock, e]))⟩, .inl rfl⟩
      · simp only [List.size_toArray, List.length_append, List.length_take, List.length_drop, Array.length_toList]
        omega
      · have e1 : cur.toList.take (o + n * i.size) = cur.toList.take o ++ xs := by rw [List.take_add, htake]
        have e2 : (cur.toList.take o).length = o := by simp; omega
        rw [e1, List.append_assoc, List.append_assoc, List.drop_left' e2, ← List.append_assoc, ← hlen]
        exact List.take_left
    · have holds : ∀ j u, xs[j]? = some u → w.cell? ((⟨g, o, none⟩ : Addr).add j) = some u := by
        intro j u hj
        rw [add_raw, cell_of_row w g (o + j) cur e (0, 0) hg]
        rw [← htake, List.getElem?_take] at hj
        split at hj
        · rw [List.getElem?_drop] at hj
          simpa using hj
        · cases hj
      have hr := run_append_grow (P := P) w t ty e i z ht hi hz ⟨g, o, none⟩ n cap xs hown.1 holds a m c news hl hnews (by omega) (by omega) (growslice_fits (by omega) hbytes)
      have hgr := grown cap (by omega) (Value.ownBlock (.slice (some ⟨g, o, none⟩) n cap))
      exact ⟨_, _, _, hr, hgr.1, hgr.2, .inr rfl⟩
theorem step_append_q {ops : Array Oper} {o : Oper} {a : Act} {K : Act → World → Prop} {Q : Exit → Act → World → Prop} {E : Prop} {w : World} (hgd : o.guard = none) (s x : Operand) (t : TypeId)
    (ho : o.op = .call { callee := .builtin .append, args := #[s, x], argTypes := #[t, t] }) (base : Nat) (e : TypeId) (z : Value) (size bytes : Nat) (ht : P.underlying t = some (.slice e))
    (hinfo : (P.info? e).map (fun i => (i.zero, i.size, i.bytes)) = some (some z, size, bytes)) (hzs : z.cells.size = size) (hsz : 0 < size)
    (v : Value) (n : Nat) (xs : List Value) (hs : a.eval s = v) (hown : ownsQ w base e size v n xs)
    (ad : Addr) (m c : Nat) (news : List Value) (hx : a.eval x = .slice (some ad) m c) (hl : news.length = m * size) (hnews : Sees w (some ad) news) (h1 : ∀ u ∈ news, u.oneCell' = true) (hm : 0 < m)
    (h63 : n + m ≤ maxLen) (hbytes : (n + m) * bytes ≤ 140737488355328) (hbase : base ≤ w.heap.size)
    (h : ∀ A' c' w', ownsQ w' base e size (.slice A' (n + m) c') (n + m) (xs ++ news) → w.grownBy w' v.ownBlock → ((Value.slice A' (n + m) c').ownBlock = v.ownBlock ∨ (Value.slice A' (n + m) c').ownBlock = some w.heap.size) →
      K (a.put o.dst (.slice A' (n + m) c')) w') :
    if Region.wanted o (yielded ops a.tmps) = true then Oper.wp P o a w K Q else E := by
  have hw : Region.wanted o (yielded ops a.tmps) = true := by simp [Region.wanted, hgd]
  rw [if_pos hw]
  obtain ⟨i, hi, hz, hs', hb⟩ := info_three hinfo
  obtain ⟨A', c', w', hr, h2, h3, h4⟩ := run_append_q2 (P := P) w base t o.type e i z size bytes ht hi hz hs' hb hzs hsz v n xs hown ad m c news hl (fun j u hj => by obtain ⟨ad', e', hc⟩ := hnews j u hj; cases e'; exact hc) h1 hm h63 hbytes hbase
  unfold Oper.wp execOp
  simp only [ho, resolve, invoke, builtin, Sem.run_bind, Sem.run_pure, Result.andThen_ok, List.map_toArray, List.map_cons, List.map_nil, hs, hx, hr]
  exact h A' c' w' h2 h3 h4
end
theorem q_apart {w : World} {base n size g : Nat} {e ty : TypeId} {v : Value} {xs : List Value} {cs : Array Value} (h : ownsQ w base e size v n xs) (hg : w.heap[g]? = some (.cells cs ty (0, 0))) (hne : e ≠ ty) : v.ownBlock ≠ some g := by
  intro eb
  rcases h.2 with ⟨rfl, _⟩ | ⟨g1, o1, cap1, cur1, rfl, _, hh1, _⟩
  · simp [Value.ownBlock] at eb
  · obtain rfl : g1 = g := by simpa [Value.ownBlock] using eb
    rw [hg] at hh1
    injection hh1 with hh1
    injection hh1 with _ ht
    exact hne ht.symm
theorem own_far {w : World} {base n size g : Nat} {e ty : TypeId} {v : Value} {xs : List Value} {cs : Array Value} (h : w.ownsRow base e size v n xs) (hg : w.heap[g]? = some (.cells cs ty (0, 0))) (hne : e ≠ ty) : v.ownBlock ≠ some g := by
  intro eb
  rcases h.2 with ⟨rfl, _⟩ | ⟨g1, cap1, cur1, rfl, _, hh1, _⟩
  · simp [Value.ownBlock] at eb
  · obtain rfl : g1 = g := by simpa [Value.ownBlock] using eb
    rw [hg] at hh1
    injection hh1 with hh1
    injection hh1 with _ ht
    exact hne ht.symm
theorem own_apartq {w w1 : World} {b b' s s' n n' : Nat} {e e' : TypeId} {v v' : Value} {xs xs' : List Value} (h : w.ownsRow b e s v n xs) (h' : ownsQ w b' e' s' v' n' xs') (hne : e ≠ e') (hg : w.grownBy w1 v'.ownBlock) : w1.ownsRow b e s v n xs := by
  refine own_same h fun k hk => hg.block k (own_block_ge h k hk).2 fun eq => ?_
  rcases h.2 with ⟨rfl, _⟩ | ⟨g1, cap1, cur1, rfl, _, hh1, _⟩
  · simp [Value.ownBlock] at hk
  · obtain rfl : g1 = k := by simpa [Value.ownBlock] using hk
    exact q_apart h' hh1 (Ne.symm hne) eq.symm
theorem q_of_row {w : World} {base n size : Nat} {e : TypeId} {v : Value} {xs : List Value} (h : w.ownsRow base e size v n xs) : ownsQ w base e size v n xs := by
  refine ⟨h.1, ?_⟩
  rcases h.2 with h2 | ⟨g, cap, cur, hv, hg, hh, h3, h4, h5, h6⟩
  · exact .inl h2
  · exact .inr ⟨g, 0, cap, cur, hv, hg, hh, h3, h4, by omega, by rw [List.drop_zero]; exact h6⟩
theorem q_sees' {w : World} {base n m c size : Nat} {e : TypeId} {A : Option Addr} {xs : List Value} (h : ownsQ w base e size (.slice A m c) n xs) : m = n ∧ n ≤ c ∧ Sees w A xs := by
  rcases h.2 with ⟨hv, h0⟩ | ⟨g, o, cap, cur, hv, hg, hh, h3, h4, h5, h6⟩
  · cases hv
    obtain rfl : xs = [] := List.eq_nil_of_length_eq_zero (by rw [h.1, h0, Nat.zero_mul])
    exact ⟨h0.symm, by omega, Sees.nil _ _⟩
  · cases hv
    refine ⟨rfl, h3, fun j u hj => ⟨_, rfl, ?_⟩⟩
    rw [add_raw, cell_of_row w g (o + j) cur e (0, 0) hh]
    rw [← h6, List.getElem?_take] at hj
    split at hj
    · rw [List.getElem?_drop] at hj
      simpa using hj
    · cases hj
/-- A row of entries of their own, perhaps cut off behind. -/
def OwnsQE (base : Nat) (v : Value) (n : Nat) (es : List Ent) (W : World) : Prop := ∃ cells, ownsQ W base 110 4 v n cells ∧ Recs (EntO base) 4 W es cells
theorem OwnsE.q {base n : Nat} {v : Value} {es : List Ent} {W : World} (h : OwnsE base v n es W) : OwnsQE base v n es W := by
  obtain ⟨cells, h1, h2⟩ := h
  exact ⟨cells, q_of_row h1, h2⟩
theorem OwnsQE.see {base n c : Nat} {A : Option Addr} {es : List Ent} {W : World} (h : OwnsQE base (.slice A n c) n es W) : SeenE W A es ∧ es.length = n ∧ n ≤ c := by
  obtain ⟨cells, h1, h2⟩ := h
  obtain ⟨_, h3, h4⟩ := q_sees' h1
  refine ⟨⟨cells, h4, h2.imp fun j x cs _ hl => hl.see⟩, ?_, h3⟩
  have := h2.length
  have h5 := h1.1
  omega
theorem OwnsQE.below {base n : Nat} {v : Value} {es : List Ent} {W W' : World} (h : OwnsQE base v n es W) (hb : Below W.heap.size W W') : OwnsQE base v n es W' := by
  obtain ⟨cells, h1, h2⟩ := h
  exact ⟨cells, h1.keep hb, h2.imp fun j x cs _ hl => hl.below hb⟩
theorem q_lower {w : World} {base base' n size : Nat} {e : TypeId} {v : Value} {xs : List Value} (h : ownsQ w base e size v n xs) (hle : base' ≤ base) : ownsQ w base' e size v n xs := by
  refine ⟨h.1, ?_⟩
  rcases h.2 with h2 | ⟨g, o, cap, cur, hv, hg, r⟩
  · exact .inl h2
  · exact .inr ⟨g, o, cap, cur, hv, by omega, r⟩
theorem OwnsQE.lower {base base' n : Nat} {v : Value} {es : List Ent} {W : World} (h : OwnsQE base v n es W) (hle : base' ≤ base) : OwnsQE base' v n es W := by
  obtain ⟨cells, h1, h2⟩ := h
  exact ⟨cells, q_lower h1 hle, h2.imp fun j x cs _ hl => by
    obtain ⟨A, c, e, ho⟩ := hl
    exact ⟨A, c, e, own_lower ho hle⟩⟩
/-- A store into a block of another type. -/
theorem OwnsQE.far {base n g : Nat} {v : Value} {es : List Ent} {W : World} {cs : Array Value} {ty : TypeId} (h : OwnsQE base v n es W) (p : Addr) (u : Value) (hp : p.block = g) (hg : W.heap[g]? = some (.cells cs ty (0, 0))) (h1 : 110 ≠ ty) (h2 : 5 ≠ ty) : OwnsQE base v n es (W.setCell p u) := by
  obtain ⟨cells, o1, o2⟩ := h
  subst hp
  refine ⟨cells, q_same o1 (fun b hb => Below.heap_setCell _ _ _ _ (fun e => q_apart o1 hg h1 (by rw [hb, e]))), o2.imp fun j x cs' _ hl => ?_⟩
  obtain ⟨A, c, e, ho⟩ := hl
  exact ⟨A, c, e, own_setFar ho p u (own_far ho hg h2)⟩
/-- One more is appended. -/
theorem OwnsQE.snoc {base n c c2 : Nat} {A A2 : Option Addr} {es : List Ent} {cells : List Value} {x : Ent} {d : Value} {W W2 : World} (h1 : ownsQ W base 110 4 (.slice A n c) n cells) (h2 : Recs (EntO base) 4 W es cells) (hx : EntO base W x (x.cells d))
    (h3 : ownsQ W2 base 110 4 (.slice A2 (n + 1) c2) (n + 1) (cells ++ x.cells d)) (hg : W.grownBy W2 (Value.slice A n c).ownBlock) : OwnsQE base (.slice A2 (n + 1) c2) (n + 1) (es ++ [x]) W2 := by
  have hk : ∀ (y : Ent) (cs : List Value), EntO base W y cs → EntO base W2 y cs := fun y cs hl => by
    obtain ⟨A', c', e, ho⟩ := hl
    exact ⟨A', c', e, own_apartq ho h1 (by decide) hg⟩
  exact ⟨_, h3, (h2.imp fun j y cs _ hl => hk y cs hl).snoc rfl (hk x _ hx)⟩
/-- 's[:k:k]'. -/
theorem OwnsQE.cut {base n c k : Nat} {A : Option Addr} {es : List Ent} {W : World} (h : OwnsQE base (.slice A n c) n es W) (hk : k ≤ n) : OwnsQE base (.slice A k k) k (es.take k) W := by
  obtain ⟨cells, h1, h2⟩ := h
  refine ⟨cells.take (k * 4), ⟨by rw [List.length_take, h1.1]; omega, ?_⟩, h2.take k⟩
  rcases h1.2 with ⟨hv, h0⟩ | ⟨g, o, cap, cur, hv, hg, hh, h3, h4, h5, h6⟩
  · cases hv
    obtain rfl : k = 0 := by omega
    exact .inl ⟨rfl, rfl⟩
  · cases hv
    refine .inr ⟨g, o, k, cur, rfl, hg, hh, Nat.le_refl _, by omega, by omega, ?_⟩
    rw [← h6, List.take_take]
    congr 1
    omega
end Go.Proofs.YtoongmoajnedlaaGreat
