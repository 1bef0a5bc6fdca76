/- VfsBytes: the walk. -/
import Derived.Test.YtighnmfeejdhoaaVFs
namespace Go.Proofs.YtighnmfeejdhoaaV
open Go.RowKit
set_option linter.unusedVariables false
set_option linter.unusedSimpArgs false
section
variable {W w : World} {B f : Nat} {own : Nat → Option Int} {Ph : Phys} {S : FSt} {v : Value} {l : List Int}
theorem wpList_append_run {P : Program} {w w' : World} {ops : Array Oper} {rest : List Oper} {o : Oper} {a : Act} {Q : Exit → Act → World → Prop} (hgd : o.guard = none) (s x : Operand) (t : TypeId) (ho : o.op = .call { callee := .builtin .append, args := #[s, x], argTypes := #[t, t] })
    (v1 v2 v' : Value) (hs : a.eval s = v1) (hx : a.eval x = v2) (hrun : (Builtin.append_ #[t, t] o.type #[v1, v2]).run P w = .ok v' w') (h : wpList P ops Q rest (a.put o.dst v') w') : wpList P ops Q (o :: rest) a w := by
  refine wpList_plain hgd fun K hK => ?_
  unfold Oper.wp execOp
  simp only [ho, resolve, invoke, builtin, Sem.run_bind, Sem.run_pure, Result.andThen_ok, List.map_toArray, List.map_cons, List.map_nil, hs, hx, hrun]
  exact hK _ _ h
/-- An append's run, shut (a law that does not fit is then passed over at once). -/
structure Ran (P : Program) (t ty : TypeId) (v1 v2 : Value) (w : World) (v' : Value) (w' : World) : Prop where
  run : (Builtin.append_ #[t, t] ty #[v1, v2]).run P w = .ok v' w'
theorem wpList_append_ran {P : Program} {w w' : World} {ops : Array Oper} {rest : List Oper} {o : Oper} {a : Act} {Q : Exit → Act → World → Prop} (hgd : o.guard = none) (s x : Operand) (t : TypeId) (ho : o.op = .call { callee := .builtin .append, args := #[s, x], argTypes := #[t, t] })
    (v1 v2 v' : Value) (hs : a.eval s = v1) (hx : a.eval x = v2) (hrun : Ran P t o.type v1 v2 w v' w') (h : wpList P ops Q rest (a.put o.dst v') w') : wpList P ops Q (o :: rest) a w :=
  wpList_append_run hgd s x t ho v1 v2 v' hs hx hrun.run h
def lenV : Value → Nat
  | .slice _ n _ => n
  | _ => 0
theorem wrote_first (l : List Int) : wrote [] 0 l = l := by
  unfold wrote overlay padTo
  split
  · simp
  · rename_i h
    rw [List.eq_nil_of_length_eq_zero (by omega : l.length = 0)]
theorem Both.cut {p : Option Addr} {c k : Nat} (h : Both W w B f own Ph S (.slice p l.length c) l) (hk : k ≤ l.length) : Both W w B f own Ph S (.slice p k c) (l.take k) := by
  have hl : (l.take k).length = k := by simp; omega
  refine ⟨h.hB, h.rep, ?_, fun g hg => h.out g (by rw [← hg]; cases p <;> rfl), h.below⟩
  rw [hl]
  obtain ⟨h1, h2⟩ := h.row
  refine ⟨by rw [byteCells_len, hl]; omega, ?_⟩
  rcases h2 with ⟨h2, h3⟩ | ⟨g, cap, cur, h2, h3, h4, h5, h6, h7, h8⟩
  · simp only [Value.slice.injEq] at h2
    obtain ⟨rfl, _, rfl⟩ := h2
    have : k = 0 := by omega
    subst this
    exact .inl ⟨rfl, rfl⟩
  · simp only [Value.slice.injEq] at h2
    obtain ⟨rfl, _, rfl⟩ := h2
    refine .inr ⟨g, c, cur, rfl, h3, h4, by omega, h6, h7, ?_⟩
    rw [byteCells_take, ← h8, List.take_take]
    congr 1
    omega
theorem Both.at_ {g n c : Nat} (h : Both W w B f own Ph S (.slice (some ⟨g, 0, none⟩) n c) l) {j : Nat} (hj : j < l.length) : w.cell? ⟨g, j, none⟩ = some (.int .u8 l[j]) ∧ w.frozen? ⟨g, j, none⟩ = false := by
  refine ⟨?_, ?_⟩
  · have hr := h.row
    have hn : n = l.length := by
      rcases hr.2 with ⟨e, _⟩ | ⟨_, _, _, e, _⟩
      · cases e
      · simp only [Value.slice.injEq] at e; exact e.2.1
    subst hn
    have := hr.cells (g := g) rfl j (.int .u8 l[j]) (by unfold byteCells; rw [List.getElem?_map, List.getElem?_eq_getElem hj]; rfl)
    rw [Addr.add_lit, Nat.zero_add] at this
    exact this
  · rcases h.row.2 with ⟨e, _⟩ | ⟨g', _, _, e, _, h4, _⟩
    · cases e
    · simp only [Value.slice.injEq, Option.some.injEq, Addr.mk.injEq] at e
      obtain ⟨⟨rfl, _, _⟩, _⟩ := e
      exact frozen_of h4 j
theorem Both.head {p : Option Addr} {n c : Nat} (h : Both W w B f own Ph S (.slice p n c) l) (hl : 0 < l.length) : ∃ g, p = some ⟨g, 0, none⟩ := by
  rcases h.row.2 with ⟨_, e⟩ | ⟨g', _, _, e, _⟩
  · omega
  · simp only [Value.slice.injEq] at e
    exact ⟨g', e.1⟩
theorem Both.cap {p : Option Addr} {c : Nat} (h : Both W w B f own Ph S (.slice p l.length c) l) : l.length ≤ c := by
  rcases h.row.2 with ⟨h2, h3⟩ | ⟨g, cap, cur, h2, h3, h4, h5, _⟩
  · omega
  · simp only [Value.slice.injEq] at h2
    obtain ⟨_, _, rfl⟩ := h2
    exact h5
end
end Go.Proofs.YtighnmfeejdhoaaV
