/- vfs, pack, compare: contracts of the functions (texts VMarks, VTreeC, VDelOne, VSort1, MERGED). -/
import Derived.Test.YtcjahipcfcghlaaGreatVXxh
import Derived.Test.YtcjahipcfcghlaaGreatVTree
import Derived.RegionTactic
import Derived.ChangeAlike
import Derived.Test.YtcjahipcfcghlaaGreatVJoin
/- compare: Marks of a tree that is one file under one or two names. -/
namespace Go.Proofs.YtcjahipcfcghlaaGreatV
open Go.RowKit
set_option linter.unusedVariables false
set_option linter.unusedSimpArgs false
/-- A mark's cells. -/
def markC (name : ByteArray) (m : Mt) (first : ByteArray) : Array Value := #[.string name, .int .i64 2, .int .u32 m.mode, .int .u32 m.uid, .int .u32 m.gid, .int .i64 m.time, .int .i32 m.nano, .int .i64 1, .int .u64 sumX, .string first]
/-- The packed entries of a file of one byte, and its marks. -/
def packsM (na : ByteArray) (mt : Mt) (dv : Value) (n : Nat) (nb : ByteArray) : List Value := (packC na 2 mt ⟨#[]⟩ 1 dv).toList ++ (if n = 2 then (packC nb 4 mt na 0 (.slice none 0 0)).toList else [])
def marksM (na : ByteArray) (mt : Mt) (n : Nat) (nb : ByteArray) : List Value := (markC na mt ⟨#[]⟩).toList ++ (if n = 2 then (markC nb mt na).toList else [])
theorem infoMark : (Tryz.prog.info? 46).map (fun i => (i.zero, i.size, i.bytes)) = some (some (.agg #[.string ⟨#[]⟩, .int .i64 0, .int .u32 0, .int .u32 0, .int .u32 0, .int .i64 0, .int .i32 0, .int .i64 0, .int .u64 0, .string ⟨#[]⟩]), 10, 88) := by kernel_rfl
theorem info44 : (Tryz.prog.info? 44).map (·.size) = some 1 := by kernel_rfl
theorem info46 : (Tryz.prog.info? 46).map (·.size) = some 10 := by kernel_rfl
/-- What Marks holds on to while it walks. -/
structure MkAt (W w0 : World) (g mb base : Nat) (xs : List Value) (fm : List (ByteArray × Array Value)) : Prop where
  below : Below w0.heap.size w0 W
  row : ∀ j u, xs[j]? = some u → W.cell? ⟨g, j, none⟩ = some u
  map : MapAt keyStr Value.agg W mb fm
  le : w0.heap.size ≤ g ∧ g < mb ∧ mb < base ∧ base ≤ W.heap.size
theorem MkAt.turn {W W' w0 : World} {g mb base : Nat} {xs : List Value} {fm fm' : List (ByteArray × Array Value)} (h : MkAt W w0 g mb base xs fm) (hB : Below w0.heap.size w0 W') (hg : W'.heap[g]? = W.heap[g]?) (hM : MapAt keyStr Value.agg W' mb fm') (hs : base ≤ W'.heap.size) : MkAt W' w0 g mb base xs fm' :=
  ⟨hB, fun j u hj => (World.cell?_of_block (w := W) (a := ⟨g, j, none⟩) hg).trans (h.row j u hj), hM, h.le.1, h.le.2.1, h.le.2.2.1, hs⟩
theorem MkAt.of_below {W W' w0 : World} {g mb base : Nat} {xs : List Value} {fm : List (ByteArray × Array Value)} (h : MkAt W w0 g mb base xs fm) (hB : Below base W W') : MkAt W' w0 g mb base xs fm := by
  have := h.le
  exact h.turn (h.below.trans (hB.mono (by omega))) (hB.block _ (by omega)) (h.map.of_block (hB.block _ (by omega))) (by have := hB.size; omega)
theorem MkAt.put {W W' w0 : World} {g mb base : Nat} {xs : List Value} {fm fm' : List (ByteArray × Array Value)} (h : MkAt W w0 g mb base xs fm) (hM : MapAt keyStr Value.agg W' mb fm') (hT : Turned W W' mb) : MkAt W' w0 g mb base xs fm' := by
  have := h.le
  exact h.turn ⟨hT.os.trans h.below.os, hT.tape.trans h.below.tape, hT.output.trans h.below.output, by rw [hT.size]; exact h.below.size, fun k hk => (hT.block k (by omega)).trans (h.below.block k hk)⟩ (hT.block _ (by omega)) hM (by rw [hT.size]; exact this.2.2.2)
theorem MkAt.range {W w0 : World} {g mb base : Nat} {xs : List Value} {fm : List (ByteArray × Array Value)} (h : MkAt W w0 g mb base xs fm) (o : Nat) (cs : List Value) (hc : ∀ j v, cs[j]? = some v → xs[o + j]? = some v) : W.rangeAt g o cs := fun j v hj => h.row _ _ (hc j v hj)
section
variable {w : World}
set_option maxHeartbeats 4000000 in
set_option maxRecDepth 100000 in
theorem Marks_of {f : Nat} {dir : Int} {na nb : ByteArray} {mt : Mt} {n : Nat} (hn : n = 1 ∨ n = 2)
    (hT : Calls Tryz.prog 24 #[.pointer (some ⟨f, 0, none⟩), .int .i64 dir, .agg #[.bool false, .bool false, .bool false]] w fun e w' => ∃ v dv, e = .returned (.tuple #[v, .int .i64 0]) ∧ w'.ownsRow w.heap.size 55 13 v n (packsM na mt dv n nb) ∧ w'.ownsRow w.heap.size 5 1 dv 1 [.int .u8 120] ∧ Below w.heap.size w w') :
    Calls Tryz.prog 11 #[.pointer (some ⟨f, 0, none⟩), .int .i64 dir] w fun e w' => ∃ v, e = .returned (.tuple #[v, .int .i64 0]) ∧ w'.ownsRow w.heap.size 46 10 v n (marksM na mt n nb) ∧ Below w.heap.size w w' := by
  obtain ⟨iM, hiM, hzM0, hzM1, hzM2⟩ := info_parts infoMark
  have HS := Lib.hid (fun (w : World) (p c : Nat) (hp : w.cell? ⟨p, 0, none⟩ = some (.int .u8 120)) => Sum64_x (c := c) hp)
  have HT := Lib.hid hT
  have HN := Lib.hid hn
  unfold marksM markC
  generalize sumX = sx at HS ⊢
  clear hT hn
  go_enter Tryz.func11, Tryz.ntmps11
  go_wp2_with fail
  refine HT.out.mono ?_
  rintro e w1 ⟨v, dv, rfl, ho, hd, hb1⟩
  obtain ⟨g, cap, rfl, hg0, hg1, hgc⟩ : ∃ g cap, v = .slice (some ⟨g, 0, none⟩) n cap ∧ w.heap.size ≤ g ∧ g < w1.heap.size ∧ ∀ j u, (packsM na mt dv n nb)[j]? = some u → w1.cell? ⟨g, j, none⟩ = some u := by
    rcases ho.2 with ⟨_, e0⟩ | ⟨g, cap, cur, e1, hg, _⟩
    · rcases HN.out with e | e <;> omega
    · have hob : v.ownBlock = some g := by rw [e1]; rfl
      refine ⟨g, cap, e1, hg, (ho.lt g hob).2, fun j u hj => ?_⟩
      have := ho.cells hob _ _ hj
      rwa [Addr.add_lit, Nat.zero_add] at this
  obtain ⟨d, dc, rfl, hd1, hdc⟩ : ∃ d dc, dv = .slice (some ⟨d, 0, none⟩) 1 dc ∧ d < w1.heap.size ∧ w1.cell? ⟨d, 0, none⟩ = some (.int .u8 120) := by
    rcases hd.2 with ⟨_, e0⟩ | ⟨g, cap, cur, e1, hg, _⟩
    · omega
    · have hob : dv.ownBlock = some g := by rw [e1]; rfl
      refine ⟨g, cap, e1, (hd.lt g hob).2, ?_⟩
      have := hd.cells hob 0 _ rfl
      rwa [Addr.add_lit] at this
  have hw2 := alloc_below w1 (.map #[] 0)
  have hm2 : MapAt keyStr Value.agg (w1.alloc (.map #[] 0)) w1.heap.size [] := MapAt.made (K := keyStr) (venc := Value.agg) w1
  have hs2 : (w1.alloc (.map #[] 0)).heap.size = w1.heap.size + 1 := by simp
  have hmm := @run_makeMap Tryz.prog
  have hd2 := (hw2.cell (p := ⟨d, 0, none⟩) hd1).trans hdc
  clear ho hd HT
  go_wp2_with fail
  have HT2 := Lib.hid (show MkAt (w1.alloc (.map #[] 0)) w g w1.heap.size (w1.heap.size + 1) (packsM na mt (.slice (some ⟨d, 0, none⟩) 1 dc) n nb) [] from
    ⟨hb1.trans (hw2.mono hb1.size), fun j u hj => (hw2.cell (p := ⟨g, j, none⟩) hg1).trans (hgc j u hj), hm2, hg0, hg1, by omega, by rw [hs2]; exact Nat.le_refl _⟩)
  have HD2 := Lib.hid hd2
  generalize w1.alloc (.map #[] 0) = w2 at *
  generalize w1.heap.size = mb at *
  clear hw2 hm2 hs2 hmm hd2 hb1 hgc hg0 hg1 hdc hd1
  clear w1
  refine wp_loop_rounds 3 ?_
  rw [rounds_succ]
  obtain ⟨n1, rfl⟩ : ∃ n1, n = n1 + 1 := ⟨n - 1, by rcases HN.out with e | e <;> omega⟩
  have q0 : ((0 : Int) < ((n1 + 1 : Nat) : Int)) = True := eq_true (by omega)
  have q1 : decide ((0 : Int) < ((n1 + 1 : Nat) : Int)) = true := decide_eq_true (by omega)
  have HR := Lib.hid (HT2.out.range 0 (#[.string na, .int .i64 2, .int .u32 mt.mode, .int .u32 mt.uid, .int .u32 mt.gid, .int .i64 mt.time, .int .i32 mt.nano, .string ⟨#[]⟩, .string ⟨#[]⟩, .string ⟨#[]⟩, .int .i64 1, .int .u8 0, .slice (some ⟨d, 0, none⟩) 1 dc] : Array Value).toList (fun j v hj => by unfold packsM packC; rw [Nat.zero_add, List.getElem?_append_left (List.getElem?_eq_some_iff.1 hj).1]; exact hj))
  have HI55 := Lib.hid info55
  have HI46 := Lib.hid info46
  go_wp2_with (refine wpList_load_mid rfl 55 (.tmp 29) rfl g 0 rfl _ _ HR.out Tryz.underlying55 rfl HI55.out ?_)
  have ha2 := below_two w2 (.cells #[.string na, .int .i64 2, .int .u32 mt.mode, .int .u32 mt.uid, .int .u32 mt.gid, .int .i64 mt.time, .int .i32 mt.nano, .string ⟨#[]⟩, .string ⟨#[]⟩, .string ⟨#[]⟩, .int .i64 1, .int .u8 0, .slice (some ⟨d, 0, none⟩) 1 dc] 55) (.cells #[.string na, .int .i64 2, .int .u32 mt.mode, .int .u32 mt.uid, .int .u32 mt.gid, .int .i64 mt.time, .int .i32 mt.nano, .int .i64 1, .int .u64 0, .string ⟨#[]⟩] 46)
  refine (HS.out ((w2.alloc (.cells #[.string na, .int .i64 2, .int .u32 mt.mode, .int .u32 mt.uid, .int .u32 mt.gid, .int .i64 mt.time, .int .i32 mt.nano, .string ⟨#[]⟩, .string ⟨#[]⟩, .string ⟨#[]⟩, .int .i64 1, .int .u8 0, .slice (some ⟨d, 0, none⟩) 1 dc] 55)).alloc (.cells #[.string na, .int .i64 2, .int .u32 mt.mode, .int .u32 mt.uid, .int .u32 mt.gid, .int .i64 mt.time, .int .i32 mt.nano, .int .i64 1, .int .u64 0, .string ⟨#[]⟩] 46)) d dc ((ha2.cell (p := ⟨d, 0, none⟩) (World.block_lt_of_cell? w2 _ HD2.out)).trans HD2.out)).mono ?_
  rintro e w3 ⟨rfl, hb3⟩
  have hx2 : ((w2.alloc (.cells #[.string na, .int .i64 2, .int .u32 mt.mode, .int .u32 mt.uid, .int .u32 mt.gid, .int .i64 mt.time, .int .i32 mt.nano, .string ⟨#[]⟩, .string ⟨#[]⟩, .string ⟨#[]⟩, .int .i64 1, .int .u8 0, .slice (some ⟨d, 0, none⟩) 1 dc] 55)).alloc (.cells #[.string na, .int .i64 2, .int .u32 mt.mode, .int .u32 mt.uid, .int .u32 mt.gid, .int .i64 mt.time, .int .i32 mt.nano, .int .i64 1, .int .u64 0, .string ⟨#[]⟩] 46)).heap[w2.heap.size + 1]? = some (.cells #[.string na, .int .i64 2, .int .u32 mt.mode, .int .u32 mt.uid, .int .u32 mt.gid, .int .i64 mt.time, .int .i32 mt.nano, .int .i64 1, .int .u64 0, .string ⟨#[]⟩] 46 (0, 0)) := by
    have := Go.heap_alloc_new (w2.alloc (.cells #[.string na, .int .i64 2, .int .u32 mt.mode, .int .u32 mt.uid, .int .u32 mt.gid, .int .i64 mt.time, .int .i32 mt.nano, .string ⟨#[]⟩, .string ⟨#[]⟩, .string ⟨#[]⟩, .int .i64 1, .int .u8 0, .slice (some ⟨d, 0, none⟩) 1 dc] 55)) (.cells #[.string na, .int .i64 2, .int .u32 mt.mode, .int .u32 mt.uid, .int .u32 mt.gid, .int .i64 mt.time, .int .i32 mt.nano, .int .i64 1, .int .u64 0, .string ⟨#[]⟩] 46)
    simpa using this
  have hx3 := (hb3.block _ (Array.getElem?_eq_some_iff.1 hx2).1).trans hx2
  have hsz : w2.heap.size < w3.heap.size := Nat.lt_trans (Nat.lt_succ_self _) (Array.getElem?_eq_some_iff.1 hx3).1
  have HT3 := Lib.hid (HT2.out.of_below ((ha2.trans (hb3.mono ha2.size)).mono HT2.out.le.2.2.2))
  have HX3 := Lib.hid hx3
  have HSZ := Lib.hid (show mb + 1 ≤ w2.heap.size from HT2.out.le.2.2.2)
  clear hx2 hx3 hb3 ha2 HR HD2 HT2 hsz
  generalize w2.heap.size = b2 at *
  clear w2
  have HI44 := Lib.hid info44
  go_wp2_with (first
    | (refine wpList_store_in rfl 44 (.tmp 52) (.tmp 51) rfl (b2 + 1) 8 (.int .u64 sx) _ 46 rfl rfl HX3.out (by simp) HI44.out rfl (mb + 1) (by have := HSZ.out; omega) ?_; intro w4 hx4' hb4; have hx4 : w4.heap[b2 + 1]? = some (.cells #[.string na, .int .i64 2, .int .u32 mt.mode, .int .u32 mt.uid, .int .u32 mt.gid, .int .i64 mt.time, .int .i32 mt.nano, .int .i64 1, .int .u64 sx, .string ⟨#[]⟩] 46 (0, 0)) := hx4'; clear hx4'; have HX4 := Lib.hid hx4; have HT4 := Lib.hid (HT3.out.of_below hb4); obtain ⟨w5, hput, hM5, hT5⟩ := HT4.out.map.put (P := Tryz.prog) (t := 56) (kt := 9) (et := 46) Tryz.underlying56 Tryz.underlying9 na (#[.string na, .int .i64 2, .int .u32 mt.mode, .int .u32 mt.uid, .int .u32 mt.gid, .int .i64 mt.time, .int .i32 mt.nano, .int .i64 1, .int .u64 sx, .string ⟨#[]⟩]); have hput' : (Instr.mapUpdate 56 (.map (some mb)) (.string na) (.agg #[.string na, .int .i64 2, .int .u32 mt.mode, .int .u32 mt.uid, .int .u32 mt.gid, .int .i64 mt.time, .int .i32 mt.nano, .int .i64 1, .int .u64 sx, .string ⟨#[]⟩])).run Tryz.prog w4 = .ok () w5 := hput; have y0 : w4.cell? ⟨b2 + 1, 0, none⟩ = some (.string na) := (cell_of hx4 0).trans rfl; have HT5 := Lib.hid (HT4.out.put hM5 hT5); have HX5 := Lib.hid ((hT5.block (b2 + 1) (by have := HSZ.out; omega)).trans hx4); clear hx4 hb4 hput hM5 hT5)
    | (refine wpList_load_mid rfl 46 (.tmp 12) rfl (b2 + 1) 0 rfl _ _ (range_of_heap HX4.out) Tryz.underlying46 rfl HI46.out ?_)
    | (refine wpList_load_mid rfl 46 (.tmp 12) rfl (b2 + 1) 0 rfl _ _ (range_of_heap HX5.out) Tryz.underlying46 rfl HI46.out ?_)
    | (at_builtin; refine wpList_append_own_at _ rfl (.tmp 83) (.tmp 85) 22 rfl (mb + 1) 46 iM _ 10 88 Tryz.underlying22 hiM hzM0 hzM1 hzM2 rfl (by decide) (.slice none 0 0) 0 [] rfl ⟨rfl, .inl ⟨rfl, rfl⟩⟩ ⟨w5.heap.size, 0, none⟩ 1 1 (#[.string na, .int .i64 2, .int .u32 mt.mode, .int .u32 mt.uid, .int .u32 mt.gid, .int .i64 mt.time, .int .i32 mt.nano, .int .i64 1, .int .u64 sx, .string ⟨#[]⟩] : Array Value).toList rfl rfl (World.news_of_block (cs := #[.string na, .int .i64 2, .int .u32 mt.mode, .int .u32 mt.uid, .int .u32 mt.gid, .int .i64 mt.time, .int .i32 mt.nano, .int .i64 1, .int .u64 sx, .string ⟨#[]⟩]) (t := 46) (fr := (0, 0)) (heap_alloc_new w5 _)) (by simp [Value.oneCell']) (by unfold maxLen; omega) (by omega) (by have := HT5.out.le; simp; omega) ?_; intro v6 w6 ho6 hg6 hn6 ha6; have HO6 := Lib.hid ho6; have HG6 := Lib.hid hg6; clear ho6 hg6 hn6 ha6))
  have HT6 := Lib.hid (show MkAt w6 w g mb (mb + 1) (packsM na mt (.slice (some ⟨d, 0, none⟩) 1 dc) (n1 + 1) nb) [(na, #[.string na, .int .i64 2, .int .u32 mt.mode, .int .u32 mt.uid, .int .u32 mt.gid, .int .i64 mt.time, .int .i32 mt.nano, .int .i64 1, .int .u64 sx, .string ⟨#[]⟩])] from
    have hle := HT5.out.le
    (HT5.out.of_below ((alloc_below w5 (.cells #[.string na, .int .i64 2, .int .u32 mt.mode, .int .u32 mt.uid, .int .u32 mt.gid, .int .i64 mt.time, .int .i32 mt.nano, .int .i64 1, .int .u64 sx, .string ⟨#[]⟩] 46) |>.mono hle.2.2.2).grown HG6.out (by simp; omega) (fun k e => by simp [Value.ownBlock] at e))))
  clear HT5 HX5 HX4 HT4 HX3 HT3 hput' y0 HSZ HG6
  generalize w5.heap.size = b5
  clear w5 w4 w3
  rw [rounds_succ]
  rcases Nat.eq_zero_or_pos n1 with hn | hn
  · subst hn
    go_wp2_with fail
    have hle := HT6.out.le
    go_ret2
    exact ⟨_, rfl, HO6.out.mono (by omega), HT6.out.below⟩
  · have hn3 : n1 = 1 := by rcases HN.out with e | e <;> omega
    subst hn3
    clear hn
    have HR2 := Lib.hid (HT6.out.range 13 (#[.string nb, .int .i64 4, .int .u32 mt.mode, .int .u32 mt.uid, .int .u32 mt.gid, .int .i64 mt.time, .int .i32 mt.nano, .string ⟨#[]⟩, .string ⟨#[]⟩, .string na, .int .i64 0, .int .u8 0, .slice none 0 0] : Array Value).toList (fun j v hj => by unfold packsM packC; rw [List.getElem?_append_right (by simp)]; simpa using hj))
    have hzM : (zeroValue 46).run Tryz.prog ((w6.alloc (.cells #[.string nb, .int .i64 4, .int .u32 mt.mode, .int .u32 mt.uid, .int .u32 mt.gid, .int .i64 mt.time, .int .i32 mt.nano, .string ⟨#[]⟩, .string ⟨#[]⟩, .string na, .int .i64 0, .int .u8 0, .slice none 0 0] 55)).alloc (.cells #[.string nb, .int .i64 4, .int .u32 mt.mode, .int .u32 mt.uid, .int .u32 mt.gid, .int .i64 mt.time, .int .i32 mt.nano, .int .i64 0, .int .u64 0, .string ⟨#[]⟩] 46)) = .ok (.agg #[.string ⟨#[]⟩, .int .i64 0, .int .u32 0, .int .u32 0, .int .u32 0, .int .i64 0, .int .i32 0, .int .i64 0, .int .u64 0, .string ⟨#[]⟩]) ((w6.alloc (.cells #[.string nb, .int .i64 4, .int .u32 mt.mode, .int .u32 mt.uid, .int .u32 mt.gid, .int .i64 mt.time, .int .i32 mt.nano, .string ⟨#[]⟩, .string ⟨#[]⟩, .string na, .int .i64 0, .int .u8 0, .slice none 0 0] 55)).alloc (.cells #[.string nb, .int .i64 4, .int .u32 mt.mode, .int .u32 mt.uid, .int .u32 mt.gid, .int .i64 mt.time, .int .i32 mt.nano, .int .i64 0, .int .u64 0, .string ⟨#[]⟩] 46)) := by kernel_rfl
    have hlook := ((HT6.out.of_below ((below_two w6 (.cells #[.string nb, .int .i64 4, .int .u32 mt.mode, .int .u32 mt.uid, .int .u32 mt.gid, .int .i64 mt.time, .int .i32 mt.nano, .string ⟨#[]⟩, .string ⟨#[]⟩, .string na, .int .i64 0, .int .u8 0, .slice none 0 0] 55) (.cells #[.string nb, .int .i64 4, .int .u32 mt.mode, .int .u32 mt.uid, .int .u32 mt.gid, .int .i64 mt.time, .int .i32 mt.nano, .int .i64 0, .int .u64 0, .string ⟨#[]⟩] 46)).mono HT6.out.le.2.2.2)).map.look (P := Tryz.prog) (t := 56) (kt := 9) (et := 46) Tryz.underlying56 Tryz.underlying9 hzM na false)
    have hlook' : (Instr.lookup 56 (.map (some mb)) (.string na) false).run Tryz.prog ((w6.alloc (.cells #[.string nb, .int .i64 4, .int .u32 mt.mode, .int .u32 mt.uid, .int .u32 mt.gid, .int .i64 mt.time, .int .i32 mt.nano, .string ⟨#[]⟩, .string ⟨#[]⟩, .string na, .int .i64 0, .int .u8 0, .slice none 0 0] 55)).alloc (.cells #[.string nb, .int .i64 4, .int .u32 mt.mode, .int .u32 mt.uid, .int .u32 mt.gid, .int .i64 mt.time, .int .i32 mt.nano, .int .i64 0, .int .u64 0, .string ⟨#[]⟩] 46)) = .ok (.agg #[.string na, .int .i64 2, .int .u32 mt.mode, .int .u32 mt.uid, .int .u32 mt.gid, .int .i64 mt.time, .int .i32 mt.nano, .int .i64 1, .int .u64 sx, .string ⟨#[]⟩]) ((w6.alloc (.cells #[.string nb, .int .i64 4, .int .u32 mt.mode, .int .u32 mt.uid, .int .u32 mt.gid, .int .i64 mt.time, .int .i32 mt.nano, .string ⟨#[]⟩, .string ⟨#[]⟩, .string na, .int .i64 0, .int .u8 0, .slice none 0 0] 55)).alloc (.cells #[.string nb, .int .i64 4, .int .u32 mt.mode, .int .u32 mt.uid, .int .u32 mt.gid, .int .i64 mt.time, .int .i32 mt.nano, .int .i64 0, .int .u64 0, .string ⟨#[]⟩] 46)) := by
      simpa [aget, keyStr] using hlook
    clear hlook hzM
    go_wp2_with (refine wpList_load_mid rfl 55 (.tmp 29) rfl g 13 rfl _ _ HR2.out Tryz.underlying55 rfl HI55.out ?_)
    go_region
    have hb9 : Below w6.heap.size w6 ((((w6.alloc (.cells #[.string nb, .int .i64 4, .int .u32 mt.mode, .int .u32 mt.uid, .int .u32 mt.gid, .int .i64 mt.time, .int .i32 mt.nano, .string ⟨#[]⟩, .string ⟨#[]⟩, .string na, .int .i64 0, .int .u8 0, .slice none 0 0] 55)).alloc (.cells #[.string nb, .int .i64 2, .int .u32 mt.mode, .int .u32 mt.uid, .int .u32 mt.gid, .int .i64 mt.time, .int .i32 mt.nano, .int .i64 1, .int .u64 sx, .string na] 46)).alloc (.cells #[.string na, .int .i64 2, .int .u32 mt.mode, .int .u32 mt.uid, .int .u32 mt.gid, .int .i64 mt.time, .int .i32 mt.nano, .int .i64 1, .int .u64 sx, .string ⟨#[]⟩] 46)).drew) := (((below_two w6 _ _).alloc (below_two w6 _ _).size _).drew)
    have HT9 := HT6.out.of_below (hb9.mono HT6.out.le.2.2.2)
    obtain ⟨w10, hput, hM10, hT10⟩ := HT9.map.put (P := Tryz.prog) (t := 56) (kt := 9) (et := 46) Tryz.underlying56 Tryz.underlying9 nb (#[.string nb, .int .i64 2, .int .u32 mt.mode, .int .u32 mt.uid, .int .u32 mt.gid, .int .i64 mt.time, .int .i32 mt.nano, .int .i64 1, .int .u64 sx, .string na])
    have hput' : (Instr.mapUpdate 56 (.map (some mb)) (.string nb) (.agg #[.string nb, .int .i64 2, .int .u32 mt.mode, .int .u32 mt.uid, .int .u32 mt.gid, .int .i64 mt.time, .int .i32 mt.nano, .int .i64 1, .int .u64 sx, .string na])).run Tryz.prog ((((w6.alloc (.cells #[.string nb, .int .i64 4, .int .u32 mt.mode, .int .u32 mt.uid, .int .u32 mt.gid, .int .i64 mt.time, .int .i32 mt.nano, .string ⟨#[]⟩, .string ⟨#[]⟩, .string na, .int .i64 0, .int .u8 0, .slice none 0 0] 55)).alloc (.cells #[.string nb, .int .i64 2, .int .u32 mt.mode, .int .u32 mt.uid, .int .u32 mt.gid, .int .i64 mt.time, .int .i32 mt.nano, .int .i64 1, .int .u64 sx, .string na] 46)).alloc (.cells #[.string na, .int .i64 2, .int .u32 mt.mode, .int .u32 mt.uid, .int .u32 mt.gid, .int .i64 mt.time, .int .i32 mt.nano, .int .i64 1, .int .u64 sx, .string ⟨#[]⟩] 46)).drew) = .ok () w10 := hput
    have HT10 := Lib.hid (HT9.put hM10 hT10)
    have hx9 : ((((w6.alloc (.cells #[.string nb, .int .i64 4, .int .u32 mt.mode, .int .u32 mt.uid, .int .u32 mt.gid, .int .i64 mt.time, .int .i32 mt.nano, .string ⟨#[]⟩, .string ⟨#[]⟩, .string na, .int .i64 0, .int .u8 0, .slice none 0 0] 55)).alloc (.cells #[.string nb, .int .i64 2, .int .u32 mt.mode, .int .u32 mt.uid, .int .u32 mt.gid, .int .i64 mt.time, .int .i32 mt.nano, .int .i64 1, .int .u64 sx, .string na] 46)).alloc (.cells #[.string na, .int .i64 2, .int .u32 mt.mode, .int .u32 mt.uid, .int .u32 mt.gid, .int .i64 mt.time, .int .i32 mt.nano, .int .i64 1, .int .u64 sx, .string ⟨#[]⟩] 46)).drew).heap[w6.heap.size + 1]? = some (.cells #[.string nb, .int .i64 2, .int .u32 mt.mode, .int .u32 mt.uid, .int .u32 mt.gid, .int .i64 mt.time, .int .i32 mt.nano, .int .i64 1, .int .u64 sx, .string na] 46 (0, 0)) := by
      have := Below.heap_alloc ((w6.alloc (.cells #[.string nb, .int .i64 4, .int .u32 mt.mode, .int .u32 mt.uid, .int .u32 mt.gid, .int .i64 mt.time, .int .i32 mt.nano, .string ⟨#[]⟩, .string ⟨#[]⟩, .string na, .int .i64 0, .int .u8 0, .slice none 0 0] 55)).alloc (.cells #[.string nb, .int .i64 2, .int .u32 mt.mode, .int .u32 mt.uid, .int .u32 mt.gid, .int .i64 mt.time, .int .i32 mt.nano, .int .i64 1, .int .u64 sx, .string na] 46)) (.cells #[.string na, .int .i64 2, .int .u32 mt.mode, .int .u32 mt.uid, .int .u32 mt.gid, .int .i64 mt.time, .int .i32 mt.nano, .int .i64 1, .int .u64 sx, .string ⟨#[]⟩] 46) (w6.heap.size + 1) (by simp)
      have h2 := Go.heap_alloc_new (w6.alloc (.cells #[.string nb, .int .i64 4, .int .u32 mt.mode, .int .u32 mt.uid, .int .u32 mt.gid, .int .i64 mt.time, .int .i32 mt.nano, .string ⟨#[]⟩, .string ⟨#[]⟩, .string na, .int .i64 0, .int .u8 0, .slice none 0 0] 55)) (.cells #[.string nb, .int .i64 2, .int .u32 mt.mode, .int .u32 mt.uid, .int .u32 mt.gid, .int .i64 mt.time, .int .i32 mt.nano, .int .i64 1, .int .u64 sx, .string na] 46)
      rw [heap_drew, this]
      simpa using h2
    have hle := HT6.out.le
    have HX10 := Lib.hid ((hT10.block (w6.heap.size + 1) (by omega)).trans hx9)
    have ho9 := own_keep (show w6.ownsRow (mb + 1) 46 10 v6 1 (#[.string na, .int .i64 2, .int .u32 mt.mode, .int .u32 mt.uid, .int .u32 mt.gid, .int .i64 mt.time, .int .i32 mt.nano, .int .i64 1, .int .u64 sx, .string ⟨#[]⟩] : Array Value).toList from HO6.out) hb9
    have HO10 := Lib.hid (own_move ho9 fun k hk => hT10.block k (by have := (ho9.lt k hk).1; omega))
    clear hb9 HT9 hput hM10 hT10 hx9 ho9 hlook' HR2 HO6
    go_wp2_with (first
      | (refine wpList_load_mid rfl 46 (.tmp 12) rfl (w6.heap.size + 1) 0 rfl _ _ (range_of_heap HX10.out) Tryz.underlying46 rfl HI46.out ?_)
      | (at_builtin; refine wpList_append_own_at _ rfl (.tmp 83) (.tmp 85) 22 rfl (mb + 1) 46 iM _ 10 88 Tryz.underlying22 hiM hzM0 hzM1 hzM2 rfl (by decide) v6 1 (#[.string na, .int .i64 2, .int .u32 mt.mode, .int .u32 mt.uid, .int .u32 mt.gid, .int .i64 mt.time, .int .i32 mt.nano, .int .i64 1, .int .u64 sx, .string ⟨#[]⟩] : Array Value).toList rfl (own_allocG HO10.out _) ⟨w10.heap.size, 0, none⟩ 1 1 (#[.string nb, .int .i64 2, .int .u32 mt.mode, .int .u32 mt.uid, .int .u32 mt.gid, .int .i64 mt.time, .int .i32 mt.nano, .int .i64 1, .int .u64 sx, .string na] : Array Value).toList rfl rfl (World.news_of_block (cs := #[.string nb, .int .i64 2, .int .u32 mt.mode, .int .u32 mt.uid, .int .u32 mt.gid, .int .i64 mt.time, .int .i32 mt.nano, .int .i64 1, .int .u64 sx, .string na]) (t := 46) (fr := (0, 0)) (heap_alloc_new w10 _)) (by simp [Value.oneCell']) (by unfold maxLen; omega) (by omega) (by have := HT10.out.le; simp; omega) ?_; intro v11 w11 ho11 hg11 hn11 ha11; have HO11 := Lib.hid ho11; have HG11 := Lib.hid hg11; clear ho11 hg11 hn11 ha11))
    rw [rounds_succ]
    go_wp2_with fail
    have hbl := (HT10.out.of_below (alloc_below w10 (.cells #[.string nb, .int .i64 2, .int .u32 mt.mode, .int .u32 mt.uid, .int .u32 mt.gid, .int .i64 mt.time, .int .i32 mt.nano, .int .i64 1, .int .u64 sx, .string na] 46) |>.mono HT10.out.le.2.2.2)).below.grown HG11.out (by have := HT10.out.below.size; simp; omega) (fun k e => by have := (HO10.out.lt k e).1; omega)
    go_ret2
    exact ⟨_, rfl, HO11.out.mono (by omega), hbl⟩
end
end Go.Proofs.YtcjahipcfcghlaaGreatV

/- pack: Tree of a directory that is one file of one byte. -/
namespace Go.Proofs.YtcjahipcfcghlaaGreatV
open Go.RowKit
set_option linter.unusedVariables false
set_option linter.unusedSimpArgs false
section
variable {w : World} {B f : Nat} {own : Nat → Option Int} {Ph : Phys} {S : FSt}
/-- A top directory that holds one file of the byte 'x' under one or two names. -/
structure OneFile (S : FSt) (dir : Int) (na nb : ByteArray) (mt : Mt) (n : Nat) : Prop where
  inv : Inv S
  two : n = 1 ∨ n = 2
  at_ : ∃ d nd i, aget dir S.inodes = some d ∧ d.kind = 1 ∧ (akeys d.ents).Nodup ∧ d.ents.length = n ∧ (∀ p ∈ d.ents, p.1.size ≤ maxLen) ∧ aget nd S.inodes = some i ∧ i.kind = 2 ∧ i.target = noName ∧ i.ents = [] ∧ i.data = [120] ∧ i.mt = mt ∧
    (entsOf d.ents = [(na, nd)] ∨ entsOf d.ents = [(na, nd), (nb, nd)])
  na_ : isNameS na = true
  nb_ : isNameS nb = true
set_option maxHeartbeats 1000000 in
theorem Tree_calls (h : FSRep w B f own Ph S) {dir : Int} {na nb : ByteArray} {mt : Mt} {n : Nat} (o : OneFile S dir na nb mt n) :
    Calls Tryz.prog 24 #[.pointer (some ⟨f, 0, none⟩), .int .i64 dir, .agg #[.bool false, .bool false, .bool false]] w fun e w' => ∃ v dv, e = .returned (.tuple #[v, .int .i64 0]) ∧ w'.ownsRow w.heap.size 55 13 v n (packsM na mt dv n nb) ∧ w'.ownsRow w.heap.size 5 1 dv 1 [.int .u8 120] ∧ Below w.heap.size w w' := by
  obtain ⟨d, nd, i, hg, hk, hnd, rfl, hz, hi, hik, hit, hie, hid, rfl, he⟩ := o.at_
  have HT := Lib.hid (tree_flat (h.of_below (alloc_below w (.cells #[.bool false, .bool false, .bool false] 82))) o.inv hg hk hnd (by rcases o.two with e | e <;> omega) hz hi hik hit hie (by rw [hid]; simp) he o.na_ o.nb_)
  clear he hg hk hnd hz hi hik hit hie
  go_enter Tryz.func24, Tryz.ntmps24
  go_wp2_with fail
  refine HT.out.mono ?_
  rintro e w1 ⟨v, dv, rfl, ho, hd, hb⟩
  unfold packsC at ho
  rw [hid] at ho hd
  have HO := Lib.hid ho
  have HD := Lib.hid hd
  have HB := Lib.hid hb
  clear ho hd hb HT
  go_wp2_with fail
  go_ret2
  exact ⟨_, _, rfl, HO.out.mono (by simp), HD.out.mono (by simp), (alloc_below w _).trans (HB.out.mono (by simp))⟩
theorem Marks_calls (h : FSRep w B f own Ph S) {dir : Int} {na nb : ByteArray} {mt : Mt} {n : Nat} (o : OneFile S dir na nb mt n) :
    Calls Tryz.prog 11 #[.pointer (some ⟨f, 0, none⟩), .int .i64 dir] w fun e w' => ∃ v, e = .returned (.tuple #[v, .int .i64 0]) ∧ w'.ownsRow w.heap.size 46 10 v n (marksM na mt n nb) ∧ Below w.heap.size w w' :=
  Marks_of o.two (Tree_calls h o)
end
end Go.Proofs.YtcjahipcfcghlaaGreatV

/- slices.DeleteFunc of one packed entry that stays (compare.Newer's closure). -/
namespace Go.Proofs.YtcjahipcfcghlaaGreatV
open Go.RowKit Go.Shelf
set_option linter.unusedVariables false
set_option linter.unusedSimpArgs false
def encN (x : Int) : Value := .int .i64 x
theorem zeroN (w : World) : (zeroValue 3).run Tryz.prog w = .ok (encN 0) w := by kernel_rfl
section
variable {w : World} {b xb : Nat} {m : List (ByteArray × Int)}
set_option maxHeartbeats 1000000 in
set_option maxRecDepth 100000 in
theorem newer1 (hm : MapAt keyStr encN w b m) (hx : w.cell? ⟨xb, 0, none⟩ = some (.map (some b))) (name link : ByteArray) (kind : Int) (mt : Mt) (size : Int) (data : Value) {k : Int} (hk : aget name m = some k) (h0 : k ≠ 0) :
    Calls Tryz.prog 28 #[.agg (packC name kind mt link size data), .pointer (some ⟨xb, 0, none⟩)] w fun e w' => e = .returned (.bool false) ∧ Below w.heap.size w w' := by
  unfold packC
  have ha := alloc_below w (.cells #[.string name, .int .i64 kind, .int .u32 mt.mode, .int .u32 mt.uid, .int .u32 mt.gid, .int .i64 mt.time, .int .i32 mt.nano, .string ⟨#[]⟩, .string ⟨#[]⟩, .string link, .int .i64 size, .int .u8 0, data] 55)
  have hl := (hm.of_block (ha.block _ hm.lt)).look (P := Tryz.prog) (t := 58) (kt := 9) (et := 3) Tryz.underlying58 Tryz.underlying9 (zeroN _) name false
  have hl' : (Instr.lookup 58 (.map (some b)) (.string name) false).run Tryz.prog (w.alloc (.cells #[.string name, .int .i64 kind, .int .u32 mt.mode, .int .u32 mt.uid, .int .u32 mt.gid, .int .i64 mt.time, .int .i32 mt.nano, .string ⟨#[]⟩, .string ⟨#[]⟩, .string link, .int .i64 size, .int .u8 0, data] 55)) = .ok (.int .i64 k) (w.alloc (.cells #[.string name, .int .i64 kind, .int .u32 mt.mode, .int .u32 mt.uid, .int .u32 mt.gid, .int .i64 mt.time, .int .i32 mt.nano, .string ⟨#[]⟩, .string ⟨#[]⟩, .string link, .int .i64 size, .int .u8 0, data] 55)) := by
    simpa [hk, keyStr, encN] using hl
  have hx' := (ha.cell (p := ⟨xb, 0, none⟩) (World.block_lt_of_cell? w _ hx)).trans hx
  have q0 : decide (k = 0) = false := decide_eq_false h0
  have q1 : (k = 0) = False := eq_false h0
  have HA := Lib.hid ha
  clear hl hm ha hk
  go_enter Tryz.func28, Tryz.ntmps28
  go_wp2_with fail
  go_ret
  exact ⟨by simp [h0], HA.out⟩
set_option maxHeartbeats 2000000 in
set_option maxRecDepth 100000 in
theorem indexFunc_one (hm : MapAt keyStr encN w b m) (hx : w.cell? ⟨xb, 0, none⟩ = some (.map (some b))) {g c : Nat} {name link : ByteArray} {kind : Int} {mt : Mt} {size : Int} {data : Value} (hg : w.rangeAt g 0 (packC name kind mt link size data).toList) {k : Int} (hk : aget name m = some k) (h0 : k ≠ 0) :
    Calls Tryz.prog 45 #[.slice (some ⟨g, 0, none⟩) 1 c, .func (.func 28) #[] #[.pointer (some ⟨xb, 0, none⟩)]] w fun e w' => e = .returned (.int .i64 (-1)) ∧ Below w.heap.size w w' := by
  have HC := Lib.hid (newer1 hm hx name link kind mt size data hk h0)
  have HG := Lib.hid hg
  have HI55 := Lib.hid info55
  have eg := enters_of (P := Tryz.prog) Tryz.func28 (by kernel_rfl) rfl
  clear hm hx hg hk h0
  go_enter Tryz.func45, Tryz.ntmps45
  go_wp2_with fail
  refine wp_loop_rounds 2 ?_
  rw [rounds_succ]
  go_wp2_with (refine wpList_load_mid rfl 55 (.tmp 14) rfl g 0 rfl _ _ HG.out Tryz.underlying55 rfl HI55.out ?_)
  refine HC.out.mono ?_
  rintro e w1 ⟨rfl, hb1⟩
  have HB1 := Lib.hid hb1
  clear hb1 HC HG
  go_wp2_with fail
  rw [rounds_succ]
  go_wp2_with fail
  go_ret
  exact ⟨rfl, HB1.out⟩
set_option maxHeartbeats 1000000 in
theorem deleteFunc_one (hm : MapAt keyStr encN w b m) (hx : w.cell? ⟨xb, 0, none⟩ = some (.map (some b))) {g c : Nat} {name link : ByteArray} {kind : Int} {mt : Mt} {size : Int} {data : Value} (hg : w.rangeAt g 0 (packC name kind mt link size data).toList) {k : Int} (hk : aget name m = some k) (h0 : k ≠ 0) :
    Calls Tryz.prog 27 #[.slice (some ⟨g, 0, none⟩) 1 c, .func (.func 28) #[] #[.pointer (some ⟨xb, 0, none⟩)]] w fun e w' => e = .returned (.slice (some ⟨g, 0, none⟩) 1 c) ∧ Below w.heap.size w w' := by
  have HC := Lib.hid (indexFunc_one hm hx (c := c) hg hk h0)
  clear hm hx hg hk h0
  go_enter Tryz.func27, Tryz.ntmps27
  go_wp2_with fail
  refine HC.out.mono ?_
  rintro e w1 ⟨rfl, hb1⟩
  have HB1 := Lib.hid hb1
  clear hb1 HC
  go_wp2_with fail
  go_ret
  exact ⟨rfl, HB1.out⟩
end
end Go.Proofs.YtcjahipcfcghlaaGreatV

/- slices.SortedFunc over the keys of a map of one entry. -/
namespace Go.Proofs.YtcjahipcfcghlaaGreatV
open Go.RowKit Go.Shelf
set_option linter.unusedVariables false
set_option linter.unusedSimpArgs false
set_option maxHeartbeats 1000000 in
theorem insertion_one (A : Option Addr) (c : Nat) (fv : Value) (w : World) :
    Calls Tryz.prog 84 #[.slice A 1 c, .int .i64 0, .int .i64 1, fv] w fun e w' => e = .returned (.tuple #[]) ∧ w' = w := by
  go_enter Tryz.func84, Tryz.ntmps84
  go_wp2_with fail
  refine wp_loop_rounds 1 ?_
  rw [rounds_succ]
  go_wp2_with fail
  go_end0
  exact ⟨rfl, rfl⟩
set_option maxHeartbeats 1000000 in
theorem pdq_one (A : Option Addr) (c : Nat) (l : Int) (fv : Value) (w : World) :
    Calls Tryz.prog 63 #[.slice A 1 c, .int .i64 0, .int .i64 1, .int .i64 l, fv] w fun e w' => e = .returned (.tuple #[]) ∧ w' = w := by
  have HI := Lib.hid (insertion_one A c fv w)
  go_enter Tryz.func63, Tryz.ntmps63
  go_wp2_with fail
  refine wp_loop_rounds 1 ?_
  rw [rounds_succ]
  go_wp2_with fail
  refine HI.out.mono ?_
  rintro e w' ⟨rfl, rfl⟩
  go_wp2_with fail
  (try simp only [Exit.inBlock, Exit.then])
  refine bodyPost_ret (results_none rfl _ _ _) rfl ?_
  exact ⟨rfl, rfl⟩
set_option maxHeartbeats 1000000 in
theorem sortFunc_one (A : Option Addr) (c : Nat) (fv : Value) (w : World) :
    Calls Tryz.prog 46 #[.slice A 1 c, fv] w fun e w' => e = .returned (.tuple #[]) ∧ w' = w := by
  have HI := Lib.hid (fun l => pdq_one A c l fv w)
  go_enter Tryz.func46, Tryz.ntmps46
  go_wp2_with fail
  refine (Tryz.bits_Len 1 w (by omega) (by omega)).mono ?_
  rintro e w' ⟨rfl, rfl⟩
  go_wp2_with fail
  refine (HI.out _).mono ?_
  rintro e w' ⟨rfl, rfl⟩
  go_wp2_with fail
  go_end0
  exact ⟨rfl, rfl⟩
theorem collect_keys {ν : Type} {venc : ν → Value} {w : World} {b bx : Nat} {k : ByteArray} {v : ν} (h : MapAt keyStr venc w b [(k, v)]) (hk : k.size ≤ maxLen) (hbx : w.cell? ⟨bx, 0, none⟩ = some (.map (some b))) :
    Calls Tryz.prog 32 #[.func (.func 34) #[] #[.pointer (some ⟨bx, 0, none⟩)]] w fun e w' => ∃ v, e = .returned v ∧ w'.ownsRow w.heap.size 9 1 v 1 [.string k] ∧ Below w.heap.size w w' := by
  obtain ⟨D0, hown, hperm, hsize⟩ := own_of_map (H := Unit) h (by simp [akeys]) (by simp [maxLen]) (by simpa using hk)
  have hseq := AnyZ.keys_gives (ρ := Tryz.keys17_ren) { Tryz.keys17 with } Fence.wide 3 trivial rfl (by omega) bx b _ D0 w (World.block_lt_of_cell? w _ hbx) hbx hown
  have hc := AnyZ.collect_in (ρ := Tryz.sorted16_ren) { Tryz.sorted16 with } Fence.wide 5 trivial trivial rfl (by omega) 34 #[.pointer (some ⟨bx, 0, none⟩)] trivial (enters_of Tryz.func34 (by kernel_rfl) rfl) _ _ (by rw [hsize]; simp [maxLen]) (by rw [hsize]; simp) w hseq
  refine (callsIn_wide.1 hc).mono ?_
  rintro e w' ⟨v, ss, rfl, hS, hrow, hnil, hb⟩
  have hp := hS.trans hperm
  have hss : ss = [k.data.toList] := by simpa using hp
  subst hss
  refine ⟨v, rfl, ?_, hb⟩
  have he : encStr k.data.toList = .string k := by simp [encStr]
  have hr : w'.ownsRow w.heap.size 9 1 v 1 [encStr k.data.toList] := hrow
  rw [he] at hr
  exact hr
set_option maxHeartbeats 1000000 in
/-- The one key of a map, sorted in whatever way. -/
theorem sortedFunc_one {ν : Type} {venc : ν → Value} {w : World} {b bx : Nat} {k : ByteArray} {v : ν} (h : MapAt keyStr venc w b [(k, v)]) (hk : k.size ≤ maxLen) (hbx : w.cell? ⟨bx, 0, none⟩ = some (.map (some b))) (fv : Value) :
    Calls Tryz.prog 29 #[.func (.func 34) #[] #[.pointer (some ⟨bx, 0, none⟩)], fv] w fun e w' => ∃ v, e = .returned v ∧ w'.ownsRow w.heap.size 9 1 v 1 [.string k] ∧ Below w.heap.size w w' := by
  have HC := Lib.hid (collect_keys h hk hbx)
  clear h hk hbx
  go_enter Tryz.func29, Tryz.ntmps29
  go_wp2_with fail
  refine HC.out.mono ?_
  rintro e w1 ⟨v, rfl, ho, hb⟩
  obtain ⟨a, c, rfl⟩ := owns_slice ho
  have HO := Lib.hid ho
  have HB := Lib.hid hb
  clear ho hb HC
  go_wp2_with fail
  refine (sortFunc_one a c fv w1).mono ?_
  rintro e w' ⟨rfl, rfl⟩
  go_wp2_with fail
  go_ret
  exact ⟨_, rfl, HO.out, HB.out⟩
end Go.Proofs.YtcjahipcfcghlaaGreatV
