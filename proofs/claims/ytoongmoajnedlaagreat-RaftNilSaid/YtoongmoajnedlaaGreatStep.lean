/-
  Append at a step of a region that draws its order; 's[lo:hi]'; a round's region with an append.
-/
import Derived.Test.YtoongmoajnedlaaGreatLib
import Derived.Deep.RegionHeld3
import Derived.Deep.RegionLaw
set_option linter.unusedVariables false
set_option linter.unusedSimpArgs false
namespace Go.Proofs.YtoongmoajnedlaaGreat
open Go.RowKit

theorem step_append_sees {P : Program} {ops : Array Oper} {o : Oper} {a : Act} {K : Act → World → Prop} {Q : Exit → Act → World → Prop} {E : Prop} {w : World} (hgd : o.guard = none) (s x : Operand) (t : TypeId)
    (ho : o.op = .call { callee := .builtin .append, args := #[s, x], argTypes := #[t, t] }) (base : Nat) (e : TypeId) (z : Value) (size bytes : Nat) (ht : P.underlying t = some (.slice e))
    (hinfo : (P.info? e).map (fun i => (i.zero, i.size, i.bytes)) = some (some z, size, bytes)) (hzs : z.cells.size = size) (hsz : 0 < size)
    (v : Value) (n : Nat) (xs : List Value) (hs : a.eval s = v) (hown : w.ownsRow base e size v n xs)
    (A : Option Addr) (m c : Nat) (news : List Value) (hx : a.eval x = .slice A m c) (hl : news.length = m * size) (hnews : Sees w A news) (h1 : ∀ u ∈ news, u.oneCell' = true)
    (h63 : n + m ≤ maxLen) (hbytes : (n + m) * bytes ≤ 140737488355328) (hbase : base ≤ w.heap.size)
    (h : ∀ A' c' w', w'.ownsRow base e size (.slice A' (n + m) c') (n + m) (xs ++ news) → w.grownBy w' v.ownBlock → ((Value.slice A' (n + m) c').ownBlock = v.ownBlock ∨ (Value.slice A' (n + m) c').ownBlock = some w.heap.size) →
      K (a.put o.dst (.slice A' (n + m) c')) w') :
    if Region.wanted o (yielded ops a.tmps) = true then Oper.wp P o a w K Q else E := by
  have hw : Region.wanted o (yielded ops a.tmps) = true := by simp [Region.wanted, hgd]
  rw [if_pos hw]
  obtain ⟨A', c', w', hr, h2, h3, h4⟩ := run_append_sees (P := P) w base t o.type e z size bytes ht hinfo hzs hsz v n xs hown A m c news hl hnews h1 h63 hbytes hbase
  unfold Oper.wp execOp
  simp only [ho, resolve, invoke, builtin, Sem.run_bind, Sem.run_pure, Result.andThen_ok, List.map_toArray, List.map_cons, List.map_nil, hs, hx, hr]
  exact h A' c' w' h2 h3 h4

/-- 's[lo:hi]', the new address under one name. -/
theorem slice_mid {P : Program} (t : TypeId) (size : Nat) (ht : P.underlying t = some (.slice (P.elem t))) (hs : (P.info? (P.elem t)).map (·.size) = some size) (ad : Addr) (n c k m : Nat) (lo hi : Int) (hlo : lo = (k : Int)) (hhi : hi = (m : Int)) (hk : k ≤ m) (hm : m ≤ c) :
    ∃ X, (∀ W : World, (Instr.slice t (.slice (some ad) n c) (some (.int .i64 lo)) (some (.int .i64 hi)) none).run P W = .ok (.slice (some X) (m - k) (c - k)) W) ∧ X = if c = k then ad else ad.add (k * size) := by
  refine ⟨_, fun W => ?_, rfl⟩
  subst hlo hhi
  obtain ⟨i, hi, hz⟩ := Option.map_eq_some_iff.1 hs
  rw [run_slice_lh W t (some ad) n c ht .i64 .i64 (k : Int) (m : Int) (by omega) (by omega) (by omega)]
  simp only [sizeOf, typeInfo]
  simp [hi, hz, Result.andThen, sliced, Int.toNat_natCast]
  split <;> simp_all
/-- The same, the length under a name, at an address behind the slice's first place. -/
theorem slice_at {P : Program} (t : TypeId) (ht : P.underlying t = some (.slice (P.elem t))) (hs : (P.info? (P.elem t)).map (·.size) = some 1) (ad : Addr) (n c k m len : Nat) (lo hi : Int) (hlo : lo = (k : Int)) (hhi : hi = (m : Int)) (hk : k ≤ m) (hm : m ≤ c) (hlen : len = m - k) (hc : k < c) :
    ∃ X, (∀ W : World, (Instr.slice t (.slice (some ad) n c) (some (.int .i64 lo)) (some (.int .i64 hi)) none).run P W = .ok (.slice (some X) len (c - k)) W) ∧ X = ad.add k := by
  obtain ⟨X, hR, hX⟩ := slice_mid t 1 ht hs ad n c k m lo hi hlo hhi hk hm
  subst hlen
  refine ⟨X, hR, ?_⟩
  rw [if_neg (by omega), Nat.mul_one] at hX
  exact hX
theorem slice_rest {P : Program} (t : TypeId) (ht : P.underlying t = some (.slice (P.elem t))) (hs : (P.info? (P.elem t)).map (·.size) = some 1) (ad : Addr) (n c k len : Nat) (lo : Int) (hlo : lo = (k : Int)) (hk : k ≤ n) (hlen : len = n - k) :
    ∃ X, (∀ W : World, (Instr.slice t (.slice (some ad) n c) (some (.int .i64 lo)) none none).run P W = .ok (.slice (some X) len (c - k)) W) ∧ X = if c = k then ad else ad.add k := by
  obtain ⟨X, hR, hX⟩ := slice_from t 1 ht hs ad n c k lo hlo hk
  subst hlen
  exact ⟨X, hR, by rw [hX, Nat.mul_one]⟩
end Go.Proofs.YtoongmoajnedlaaGreat
