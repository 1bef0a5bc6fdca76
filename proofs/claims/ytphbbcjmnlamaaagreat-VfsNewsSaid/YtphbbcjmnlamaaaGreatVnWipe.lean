/- VfsNews: wipe, sameActs, sameNamed: what was told is written over. -/
import Derived.Test.YtphbbcjmnlamaaaGreatVnSame
import Derived.Test.YtphbbcjmnlamaaaGreatVnImg
import Derived.Maps.AppendAt
namespace Go.Proofs.YtphbbcjmnlamaaaGreatV
open Go.RowKit
set_option linter.unusedVariables false
set_option linter.unusedSimpArgs false
theorem infoNamed : (Tryz.prog.info? 89).map (fun i => (i.zero, i.size, i.bytes)) = some (some (.agg #[.string ⟨#[]⟩, .int .i64 0]), 2, 24) := by kernel_rfl
theorem own_grown {w w' : World} {base : Nat} {e : TypeId} {size n : Nat} {v : Value} {xs : List Value} (h : w.ownsRow base e size v n xs) (hg : w.grownBy w' none) : w'.ownsRow base e size v n xs :=
  own_move h fun k hk => hg.block k (h.lt k hk).2 (by simp)
theorem own_alloc {w : World} {base : Nat} {e : TypeId} {size n : Nat} {v : Value} {xs : List Value} (h : w.ownsRow base e size v n xs) (o : Obj) : (w.alloc o).ownsRow base e size v n xs :=
  own_move h fun k hk => Below.heap_alloc w o k (h.lt k hk).2
theorem own_set {w : World} {base : Nat} {e : TypeId} {size n c g : Nat} {xs : List Value} (h : w.ownsRow base e size (.slice (some ⟨g, 0, none⟩) n c) n xs) (j : Nat) (u : Value) : (w.setCell ⟨g, j, none⟩ u).ownsRow base e size (.slice (some ⟨g, 0, none⟩) n c) n (xs.set j u) := by
  rcases h with ⟨h1, h2⟩
  rcases h2 with ⟨h2, _⟩ | ⟨g', cap', cur, h2, h3, h4, h5, h6, h7, h8⟩
  · cases h2
  · simp only [Value.slice.injEq, Option.some.injEq, Addr.mk.injEq] at h2
    obtain ⟨⟨rfl, _, _⟩, _, rfl⟩ := h2
    refine ⟨by simp [h1], .inr ⟨g, c, cur.setIfInBounds j u, rfl, h3, heap_setCell_at h4 j _, h5, h6, by simpa using h7, ?_⟩⟩
    rw [Array.toList_setIfInBounds, List.take_set, h8]
theorem own_frozen {w : World} {base : Nat} {e : TypeId} {size n c g : Nat} {xs : List Value} (h : w.ownsRow base e size (.slice (some ⟨g, 0, none⟩) n c) n xs) (j : Nat) : base ≤ g ∧ w.frozen? ⟨g, j, none⟩ = false := by
  rcases h.2 with ⟨h2, _⟩ | ⟨g', cap', cur, h2, h3, h4, h5, h6, h7, h8⟩
  · cases h2
  · simp only [Value.slice.injEq, Option.some.injEq, Addr.mk.injEq] at h2
    obtain ⟨⟨rfl, _, _⟩, _, rfl⟩ := h2
    exact ⟨h3, frozen_of h4 j⟩
theorem own_nil (w : World) (base : Nat) (e : TypeId) (size : Nat) : w.ownsRow base e size (.slice none 0 0) 0 [] := ⟨by simp, .inl ⟨rfl, rfl⟩⟩
theorem own_drew {w : World} {base : Nat} {e : TypeId} {size n : Nat} {v : Value} {xs : List Value} (h : w.ownsRow base e size v n xs) : w.drew.ownsRow base e size v n xs := h
section
variable {w : World} {nodes bytes : Int} {g c base : Nat}
set_option maxRecDepth 100000 in
set_option maxHeartbeats 4000000 in
theorem wipe_calls (ho : w.ownsRow base 79 10 (.slice (some ⟨g, 0, none⟩) 1 c) 1 (nodeCells 1).toList) (hbase : base ≤ w.heap.size) :
    Calls Tryz.prog 11 #[imgV nodes bytes g c] w fun e w' => e = .returned (.tuple #[]) ∧ Below base w w' := by
  obtain ⟨iB, hiB, hzB0, hzB1, hzB2⟩ := info_parts infoByte
  obtain ⟨iN, hiN, hzN0, hzN1, hzN2⟩ := info_parts infoNamed
  obtain ⟨iO, hiO, hzO0, hzO1, hzO2⟩ := info_parts infoNode
  have hO1 := own_alloc ho (.cells #[.int .i64 nodes, .int .i64 bytes, .int .i64 2, .slice (some ⟨g, 0, none⟩) 1 c] 37)
  have cc : ∀ {W : World} (j : Nat) (u : Value) {xs : List Value}, W.ownsRow base 79 10 (.slice (some ⟨g, 0, none⟩) 1 c) 1 xs → xs[j]? = some u → W.cell? ⟨g, j, none⟩ = some u := fun {W} j u {xs} h hj => by
    have := h.cells (g := g) rfl j u hj
    rwa [Addr.add_lit, Nat.zero_add] at this
  have a7 := cc 7 (.slice none 0 0) hO1 rfl
  have a9 := cc 9 (.slice none 0 0) hO1 rfl
  have b9 := fun o1 o2 => cc 9 (.slice none 0 0) (own_alloc (own_alloc hO1 o1) o2) rfl
  have c0 := fun o1 o2 o3 o4 => cc 0 (.int .i64 1) (own_alloc (own_alloc (own_alloc (own_alloc hO1 o1) o2) o3) o4) rfl
  have f0 := fun o1 o2 o3 o4 => (own_frozen (own_alloc (own_alloc (own_alloc (own_alloc hO1 o1) o2) o3) o4) 0).2
  have HO1 := Lib.hid hO1
  have HBASE := Lib.hid hbase
  have HGL := Lib.hid (ho.lt g rfl).2
  clear hO1 ho hbase
  unfold imgV
  go_enter Tryz.func11, Tryz.ntmps11
  go_wp2
  refine wp_loop_rounds 2 ?_
  rw [rounds_succ]
  go_wp2
  refine wp_loop_rounds 1 ?_
  rw [rounds_succ]
  go_wp2
  refine wp_loop_rounds 1 ?_
  rw [rounds_succ]
  go_wp2_with fail
  obtain ⟨W6, hW6⟩ : ∃ W6, W6 = ((((((w.alloc (.cells #[.int .i64 nodes, .int .i64 bytes, .int .i64 2, .slice (some ⟨g, 0, none⟩) 1 c] 37)).alloc (.cells #[.int .u8 221] 5)).alloc (.cells (#[.int .u8 221] ++ Builtin.zeroCells #[.int .u8 0] ((Question.appendCap 1 0 5).cut (w.tape w.drawn (Question.appendCap 1 0 5)) - 1)) 5)).alloc (.cells #[.string ⟨#[103, 114, 111, 119, 110]⟩, .int .i64 0] 89)).alloc (.cells (#[.string ⟨#[103, 114, 111, 119, 110]⟩, .int .i64 0] ++ Builtin.zeroCells #[.string ⟨#[]⟩, .int .i64 0] ((Question.appendCap 1 0 89).cut (w.tape (w.drawn + 1) (Question.appendCap 1 0 89)) - 1)) 89)).setCell ⟨g, 0, none⟩ (.int .i64 4711)).drew.drew := ⟨_, rfl⟩
  rw [← hW6]
  have hO6 : W6.ownsRow base 79 10 (.slice (some ⟨g, 0, none⟩) 1 c) 1 ((nodeCells 1).toList.set 0 (.int .i64 4711)) := by
    rw [hW6]
    exact own_set (own_alloc (own_alloc (own_alloc (own_alloc HO1.out _) _) _) _) 0 _
  have hg := (own_frozen HO1.out 0).1
  have hB6 : Below base w W6 := by
    rw [hW6]
    have h0 := below_alloc2 (below_alloc2 (below_alloc2 (below_alloc2 (alloc_below w (.cells #[.int .i64 nodes, .int .i64 bytes, .int .i64 2, .slice (some ⟨g, 0, none⟩) 1 c] 37)) (.cells #[.int .u8 221] 5)) (.cells (#[.int .u8 221] ++ Builtin.zeroCells #[.int .u8 0] ((Question.appendCap 1 0 5).cut (w.tape w.drawn (Question.appendCap 1 0 5)) - 1)) 5)) (.cells #[.string ⟨#[103, 114, 111, 119, 110]⟩, .int .i64 0] 89)) (.cells (#[.string ⟨#[103, 114, 111, 119, 110]⟩, .int .i64 0] ++ Builtin.zeroCells #[.string ⟨#[]⟩, .int .i64 0] ((Question.appendCap 1 0 89).cut (w.tape (w.drawn + 1) (Question.appendCap 1 0 89)) - 1)) 89)
    exact (((h0.mono HBASE.out).setCell (p := ⟨g, 0, none⟩) hg _).drew).drew
  have x3 : W6.cell? ⟨w.heap.size, 3, none⟩ = some (.slice (some ⟨g, 0, none⟩) 1 c) := by
    rw [hW6]
    refine (World.cell?_setCell_far _ ⟨g, 0, none⟩ ⟨w.heap.size, 3, none⟩ _ (Nat.ne_of_lt HGL.out)).trans (cell_of (t := 37) (c := #[.int .i64 nodes, .int .i64 bytes, .int .i64 2, .slice (some ⟨g, 0, none⟩) 1 c]) (fr := (0, 0)) ?_ 3)
    exact (Below.heap_alloc _ _ _ (by simp; omega)).trans ((Below.heap_alloc _ _ _ (by simp; omega)).trans ((Below.heap_alloc _ _ _ (by simp; omega)).trans ((Below.heap_alloc _ _ _ (by simp)).trans (Go.heap_alloc_new _ _))))
  have HO6 := Lib.hid hO6
  have HB6 := Lib.hid hB6
  have HG := Lib.hid hg
  have HW := Lib.hid (show base ≤ W6.heap.size from Nat.le_trans HBASE.out hB6.size)
  clear hW6 hO6 hB6 hg a7 a9 b9 c0 f0 cc HO1
  have hnews : ∀ j u, ([.int .i64 4712, .int .i64 0, .int .u32 0, .int .u32 0, .int .u32 0, .int .i64 0, .int .i32 0, .slice none 0 0, .string ⟨#[]⟩, .slice none 0 0] : List Value)[j]? = some u → (W6.alloc (.cells #[.int .i64 4712, .int .i64 0, .int .u32 0, .int .u32 0, .int .u32 0, .int .i64 0, .int .i32 0, .slice none 0 0, .string ⟨#[]⟩, .slice none 0 0] 79)).cell? ((⟨W6.heap.size, 0, none⟩ : Addr).add j) = some u := World.news_of_block (cs := #[.int .i64 4712, .int .i64 0, .int .u32 0, .int .u32 0, .int .u32 0, .int .i64 0, .int .i32 0, .slice none 0 0, .string ⟨#[]⟩, .slice none 0 0]) (t := 79) (fr := (0, 0)) (heap_alloc_new W6 _)
  have hone : ∀ u ∈ ([.int .i64 4712, .int .i64 0, .int .u32 0, .int .u32 0, .int .u32 0, .int .i64 0, .int .i32 0, .slice none 0 0, .string ⟨#[]⟩, .slice none 0 0] : List Value), u.oneCell' = true := by simp [Value.oneCell']
  have hmx : 1 + 1 ≤ maxLen := by unfold maxLen; omega
  have hbt : (1 + 1) * 112 ≤ 140737488355328 := by omega
  have hbs : base ≤ (W6.alloc (.cells #[.int .i64 4712, .int .i64 0, .int .u32 0, .int .u32 0, .int .u32 0, .int .i64 0, .int .i32 0, .slice none 0 0, .string ⟨#[]⟩, .slice none 0 0] 79)).heap.size := by have := HW.out; simp; omega
  have HH := Lib.hid (And.intro hnews (And.intro hone (And.intro hmx (And.intro hbt hbs))))
  clear hnews hone hmx hbt hbs
  rw [rounds_succ]
  go_wp2_with (at_builtin; refine wpList_append_own_at _ rfl (.tmp 74) (.tmp 76) 35 rfl base 79 iO _ 10 112 Tryz.underlying35 hiO hzO0 hzO1 hzO2 rfl (by decide) (.slice (some ⟨g, 0, none⟩) 1 c) 1 ((nodeCells 1).toList.set 0 (.int .i64 4711)) rfl (own_alloc HO6.out _) ⟨W6.heap.size, 0, none⟩ 1 1 [.int .i64 4712, .int .i64 0, .int .u32 0, .int .u32 0, .int .u32 0, .int .i64 0, .int .i32 0, .slice none 0 0, .string ⟨#[]⟩, .slice none 0 0] rfl rfl HH.out.1 HH.out.2.1 HH.out.2.2.1 HH.out.2.2.2.1 HH.out.2.2.2.2 ?_; intro v9 w9 hown9 hgrow9 hnil9 hat9)
  go_end0
  exact ⟨rfl, (HB6.out.alloc HW.out _).grown hgrow9 (by have := HW.out; simp; omega) (fun k e => by cases e; exact HG.out)⟩
/-- Nothing was done: nothing is told. -/
theorem sameActs_calls (w : World) : Calls Tryz.prog 12 #[.slice none 0 0, .slice none 0 0] w fun e w' => e = .returned (.bool true) ∧ Below w.heap.size w w' := by
  go_enter Tryz.func12, Tryz.ntmps12
  go_wp2
  refine wp_loop_rounds 1 ?_
  rw [rounds_succ]
  go_wp2
  go_ret
  exact ⟨rfl, (below_two w _ _).drew⟩
theorem sameNamed_calls (w : World) (p : Option Addr) (c : Nat) : Calls Tryz.prog 20 #[.slice none 0 0, .slice p 0 c] w fun e w' => e = .returned (.bool true) ∧ Below w.heap.size w w' := by
  go_enter Tryz.func20, Tryz.ntmps20
  go_wp2
  refine wp_loop_rounds 1 ?_
  rw [rounds_succ]
  go_wp2
  go_ret
  exact ⟨rfl, (below_two w _ _).drew⟩
end
end Go.Proofs.YtphbbcjmnlamaaaGreatV
