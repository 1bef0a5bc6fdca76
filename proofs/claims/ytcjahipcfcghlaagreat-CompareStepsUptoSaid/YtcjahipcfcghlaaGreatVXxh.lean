/- vfs, pack, compare: contracts of the functions (texts VEntry, VXxh, MERGED). -/
import Derived.Test.YtcjahipcfcghlaaGreatVJoin
import Derived.Test.YtcjahipcfcghlaaGreatVReadB
import Derived.Deep.MidRow
import Derived.Deep.RegionHeld3
/- pack: entry of a file; link. -/
namespace Go.Proofs.YtcjahipcfcghlaaGreatV
open Go.RowKit
set_option linter.unusedVariables false
set_option linter.unusedSimpArgs false
theorem range_of_heap {w : World} {b : Nat} {c : Array Value} {t : TypeId} {fr : Nat × Nat} (h : w.heap[b]? = some (.cells c t fr)) : w.rangeAt b 0 c.toList := fun j v hv => (cell_of h (0 + j)).trans (by rw [Nat.zero_add, ← Array.getElem?_toList]; exact hv)
theorem there_of_heap {w : World} {b : Nat} {c : Array Value} {t : TypeId} (h : w.heap[b]? = some (.cells c t (0, 0))) : w.there b 0 c.size := fun j hj => ⟨by rw [cell_of h (0 + j), Nat.zero_add, Array.getElem?_eq_getElem hj]; rfl, frozen_of h _⟩
theorem own_setCells {base b : Nat} {e : TypeId} {size n : Nat} {v : Value} {xs : List Value} (hb : b < base) : ∀ (vs : List Value) (o : Nat) (w : World), w.ownsRow base e size v n xs → (w.setCells b o vs).ownsRow base e size v n xs
  | [], _, _, h => h
  | u :: r, o, w, h => by
    rw [World.setCells]
    exact own_setCells hb r (o + 1) _ (ownsRow_setCell_below h hb u)
theorem below_setCells {a : World} {B b : Nat} (hb : B ≤ b) : ∀ (vs : List Value) (o : Nat) (w : World), Below B a w → Below B a (w.setCells b o vs)
  | [], _, _, h => h
  | u :: r, o, w, h => by
    rw [World.setCells]
    exact below_setCells hb r (o + 1) _ (h.setCell (p := ⟨b, o, none⟩) hb u)
theorem info55 : (Tryz.prog.info? 55).map (·.size) = some 13 := by kernel_rfl
/-- A packed entry's cells. -/
def packC (name : ByteArray) (kind : Int) (m : Mt) (link : ByteArray) (size : Int) (data : Value) : Array Value :=
  #[.string name, .int .i64 kind, .int .u32 m.mode, .int .u32 m.uid, .int .u32 m.gid, .int .i64 m.time, .int .i32 m.nano, .string ⟨#[]⟩, .string ⟨#[]⟩, .string link, .int .i64 size, .int .u8 0, data]
section
variable {w : World} {B f : Nat} {own : Nat → Option Int} {Ph : Phys} {S : FSt}
set_option maxHeartbeats 1000000 in
theorem link_calls (name link first : ByteArray) (kind : Int) (m : Mt) (size : Int) (data : Value) (hd : data.oneCell' = true) :
    Calls Tryz.prog 56 #[.agg (packC name kind m link size data), .string first] w fun e w' => e = .returned (.agg (packC name 4 m first 0 (.slice none 0 0))) ∧ Below w.heap.size w w' := by
  unfold packC
  go_enter Tryz.func56, Tryz.ntmps56
  go_wp2
  exact bodyPost_ret (v := .agg #[.string name, .int .i64 4, .int .u32 m.mode, .int .u32 m.uid, .int .u32 m.gid, .int .i64 m.time, .int .i32 m.nano, .string ⟨#[]⟩, .string ⟨#[]⟩, .string first, .int .i64 0, .int .u8 0, .slice none 0 0]) (by simp [results, Tryz.results56, go_sem]) rfl ⟨rfl, below_two w _ _⟩
theorem readS_all {node : Int} {i : Ino} (hi : aget node S.inodes = some i) (hk : i.kind = 2) : readS S node 0 i.data.length = (i.data, 0) := by
  unfold readS
  rw [hi]
  simp only
  rw [if_neg (by omega), if_neg (fun e => e hk)]
  split
  · rename_i h
    rw [List.eq_nil_of_length_eq_zero (by omega : i.data.length = 0)]
  · rw [show Int.toNat 0 = 0 from rfl, List.drop_zero, List.take_of_length_le (by omega)]
set_option maxHeartbeats 2000000 in
set_option maxRecDepth 100000 in
theorem entry_file (h : FSRep w B f own Ph S) (I : Inv S) (name : ByteArray) (node : Int) (i : Ino) (hi : aget node S.inodes = some i) (hk : i.kind = 2) (ht : i.target = noName) (he : i.ents = []) :
    Calls Tryz.prog 55 #[.agg #[.pointer (some ⟨f, 0, none⟩), .bool false, .bool false, .bool false], .string name, .int .i64 node] w fun e w' => ∃ v, e = .returned (.agg (packC name 2 i.mt ⟨#[]⟩ i.data.length v)) ∧ w'.ownsRow w.heap.size 5 1 v i.data.length (byteCells i.data) ∧ Below w.heap.size w w' := by
  have HR := Lib.hid h
  have HI := Lib.hid I
  have Hi := Lib.hid hi
  have hst : statS S node = (⟨node, 2, i.mt, i.links, i.data.length⟩, 0) := by unfold statS; rw [hi]; simp [hk, ht, he, noName, ByteArray.size]
  have HST := Lib.hid hst
  clear h I hi hst
  go_enter Tryz.func55, Tryz.ntmps55
  have hw2 := below_two w (.cells #[.pointer (some ⟨f, 0, none⟩), .bool false, .bool false, .bool false] 113) (.cells #[.string ⟨#[]⟩, .int .i64 0, .int .u32 0, .int .u32 0, .int .u32 0, .int .i64 0, .int .i32 0, .string ⟨#[]⟩, .string ⟨#[]⟩, .string ⟨#[]⟩, .int .i64 0, .int .u8 0, .slice none 0 0] 55)
  have hS := Stat_calls (HR.out.of_below hw2) HI.out node
  rw [HST.out] at hS
  unfold statV at hS
  have HS := Lib.hid hS
  clear hS
  go_wp2_with fail
  refine HS.out.mono ?_
  rintro e w3 ⟨rfl, hb3⟩
  have hr3 : w3.heap[w.heap.size + 1]? = some (.cells #[.string ⟨#[]⟩, .int .i64 0, .int .u32 0, .int .u32 0, .int .u32 0, .int .i64 0, .int .i32 0, .string ⟨#[]⟩, .string ⟨#[]⟩, .string ⟨#[]⟩, .int .i64 0, .int .u8 0, .slice none 0 0] 55 (0, 0)) := (hb3.block _ (by simp)).trans (heap_two w _ _)
  have HR3 := Lib.hid hr3
  have HS3 := Lib.hid (show w.heap.size + 2 ≤ w3.heap.size by have := hb3.size; simpa using this)
  have hx3 : w3.heap[w.heap.size]? = some (.cells #[.pointer (some ⟨f, 0, none⟩), .bool false, .bool false, .bool false] 113 (0, 0)) := (hb3.block _ (by simp; omega)).trans ((Below.heap_alloc _ _ _ (by simp)).trans (Go.heap_alloc_new _ _))
  have HX3 := Lib.hid hx3
  have HB3 := Lib.hid (hw2.trans (hb3.mono (by simp; omega)))
  have z0 := fun o1 o2 => cell_of (fr := (0, 0)) (t := 113) (c := #[.pointer (some ⟨f, 0, none⟩), .bool false, .bool false, .bool false]) (((below_two w3 o1 o2).block _ (Array.getElem?_eq_some_iff.1 hx3).1).trans hx3)
  have z00 := fun o1 o2 => z0 o1 o2 0
  have z01 := fun o1 o2 => z0 o1 o2 1
  have z02 := fun o1 o2 => z0 o1 o2 2
  simp only [List.getElem?_toArray, List.getElem?_cons_zero, List.getElem?_cons_succ] at z00 z01 z02
  clear hw2 hb3 hx3 z0 HS
  go_wp2_with fail
  have hw5 := below_two w3 (.cells #[.int .i64 node, .int .i64 2, .int .u32 i.mt.mode, .int .u32 i.mt.uid, .int .u32 i.mt.gid, .int .i64 i.mt.time, .int .i32 i.mt.nano, .int .i64 i.links, .int .i64 (i.data.length : Int)] 149) (.cells #[.string name, .int .i64 2, .int .u32 i.mt.mode, .int .u32 i.mt.uid, .int .u32 i.mt.gid, .int .i64 i.mt.time, .int .i32 i.mt.nano, .string ⟨#[]⟩, .string ⟨#[]⟩, .string ⟨#[]⟩, .int .i64 0, .int .u8 0, .slice none 0 0] 55)
  have hRd := Read_calls (HR.out.of_below (HB3.out.trans (hw5.mono HB3.out.size))) HI.out node 0 i.data.length
  rw [readS_all Hi.out hk] at hRd
  refine hRd.mono ?_
  rintro e w5 ⟨v, rfl, ho, hb5⟩
  have hq5 : w5.heap[w3.heap.size + 1]? = some (.cells #[.string name, .int .i64 2, .int .u32 i.mt.mode, .int .u32 i.mt.uid, .int .u32 i.mt.gid, .int .i64 i.mt.time, .int .i32 i.mt.nano, .string ⟨#[]⟩, .string ⟨#[]⟩, .string ⟨#[]⟩, .int .i64 0, .int .u8 0, .slice none 0 0] 55 (0, 0)) := (hb5.block _ (by simp)).trans (heap_two w3 _ _)
  have hs5 : w5.heap[w3.heap.size]? = some (.cells #[.int .i64 node, .int .i64 2, .int .u32 i.mt.mode, .int .u32 i.mt.uid, .int .u32 i.mt.gid, .int .i64 i.mt.time, .int .i32 i.mt.nano, .int .i64 i.links, .int .i64 (i.data.length : Int)] 149 (0, 0)) := (hb5.block _ (by simp; omega)).trans ((Below.heap_alloc _ _ _ (by simp)).trans (Go.heap_alloc_new _ _))
  have hr5 : w5.heap[w.heap.size + 1]? = some (.cells #[.string ⟨#[]⟩, .int .i64 0, .int .u32 0, .int .u32 0, .int .u32 0, .int .i64 0, .int .i32 0, .string ⟨#[]⟩, .string ⟨#[]⟩, .string ⟨#[]⟩, .int .i64 0, .int .u8 0, .slice none 0 0] 55 (0, 0)) := (hb5.block _ (by have := HS3.out; simp; omega)).trans ((hw5.block _ (by have := HS3.out; omega)).trans HR3.out)
  obtain ⟨vA, vc, rfl⟩ : ∃ vA vc, v = .slice vA i.data.length vc := by
    rcases ho.2 with ⟨rfl, e⟩ | ⟨g, cap, cur, e, _⟩
    · exact ⟨none, 0, by rw [e]⟩
    · exact ⟨_, cap, e⟩
  have s8 := cell_of hs5 8
  have p12 := cell_of hq5 12
  have p10 := cell_of hq5 10
  simp only [List.getElem?_toArray, List.getElem?_cons_zero, List.getElem?_cons_succ] at s8 p12 p10
  have fq := frozen_of hq5
  have hq7 : ((w5.setCell ⟨w3.heap.size + 1, 12, none⟩ (.slice vA i.data.length vc)).setCell ⟨w3.heap.size + 1, 10, none⟩ (.int .i64 (i.data.length : Int))).heap[w3.heap.size + 1]? = some (.cells #[.string name, .int .i64 2, .int .u32 i.mt.mode, .int .u32 i.mt.uid, .int .u32 i.mt.gid, .int .i64 i.mt.time, .int .i32 i.mt.nano, .string ⟨#[]⟩, .string ⟨#[]⟩, .string ⟨#[]⟩, .int .i64 (i.data.length : Int), .int .u8 0, .slice vA i.data.length vc] 55 (0, 0)) := (heap_setCell_at (heap_setCell_at hq5 12 (.slice vA i.data.length vc)) 10 (.int .i64 (i.data.length : Int))).trans rfl
  have hr7 : ((w5.setCell ⟨w3.heap.size + 1, 12, none⟩ (.slice vA i.data.length vc)).setCell ⟨w3.heap.size + 1, 10, none⟩ (.int .i64 (i.data.length : Int))).heap[w.heap.size + 1]? = some (.cells #[.string ⟨#[]⟩, .int .i64 0, .int .u32 0, .int .u32 0, .int .u32 0, .int .i64 0, .int .i32 0, .string ⟨#[]⟩, .string ⟨#[]⟩, .string ⟨#[]⟩, .int .i64 0, .int .u8 0, .slice none 0 0] 55 (0, 0)) := (Below.heap_setCell _ _ _ _ (by have := HS3.out; simp; omega)).trans ((Below.heap_setCell _ _ _ _ (by have := HS3.out; simp; omega)).trans hr5)
  have HQ7 := Lib.hid hq7
  have HR7 := Lib.hid hr7
  have HO := Lib.hid ho
  have HB5 := Lib.hid (HB3.out.trans ((hw5.trans (hb5.mono hw5.size)).mono HB3.out.size))
  clear hq7 hr7 ho hb5 hw5 hq5 hs5 hr5 hRd
  have HI55 := Lib.hid info55
  have HONE := Lib.hid (show (#[.string name, .int .i64 2, .int .u32 i.mt.mode, .int .u32 i.mt.uid, .int .u32 i.mt.gid, .int .i64 i.mt.time, .int .i32 i.mt.nano, .string ⟨#[]⟩, .string ⟨#[]⟩, .string ⟨#[]⟩, .int .i64 (i.data.length : Int), .int .u8 0, .slice vA i.data.length vc] : Array Value).all (·.oneCell') = true by simp [Value.oneCell'])
  have HTH := Lib.hid (there_of_heap HR7.out)
  have HRG := Lib.hid (range_of_heap HQ7.out)
  go_wp2_with (first
    | (refine wpList_load_mid rfl 55 (.tmp 9) rfl (w3.heap.size + 1) 0 rfl _ _ HRG.out Tryz.underlying55 rfl HI55.out ?_)
    | (refine wpList_store_mid rfl 55 (.tmp 6) (.tmp 71) rfl (w.heap.size + 1) 0 #[.string name, .int .i64 2, .int .u32 i.mt.mode, .int .u32 i.mt.uid, .int .u32 i.mt.gid, .int .i64 i.mt.time, .int .i32 i.mt.nano, .string ⟨#[]⟩, .string ⟨#[]⟩, .string ⟨#[]⟩, .int .i64 (i.data.length : Int), .int .u8 0, .slice vA i.data.length vc] rfl rfl HTH.out HI55.out HONE.out ?_))
  have hrr := World.rangeAt_setCells_same _ (w.heap.size + 1) 0 (#[.string name, .int .i64 2, .int .u32 i.mt.mode, .int .u32 i.mt.uid, .int .u32 i.mt.gid, .int .i64 i.mt.time, .int .i32 i.mt.nano, .string ⟨#[]⟩, .string ⟨#[]⟩, .string ⟨#[]⟩, .int .i64 (i.data.length : Int), .int .u8 0, .slice vA i.data.length vc] : Array Value).toList HTH.out
  have hoo := own_setCells (b := w.heap.size + 1) (by have := HS3.out; simp; omega) (#[.string name, .int .i64 2, .int .u32 i.mt.mode, .int .u32 i.mt.uid, .int .u32 i.mt.gid, .int .i64 i.mt.time, .int .i32 i.mt.nano, .string ⟨#[]⟩, .string ⟨#[]⟩, .string ⟨#[]⟩, .int .i64 (i.data.length : Int), .int .u8 0, .slice vA i.data.length vc] : Array Value).toList 0 _ (ownsRow_setCell_below (a := ⟨w3.heap.size + 1, 10, none⟩) (ownsRow_setCell_below (a := ⟨w3.heap.size + 1, 12, none⟩) HO.out (by simp) (.slice vA i.data.length vc)) (by simp) (.int .i64 (i.data.length : Int)))
  have hbb := below_setCells (b := w.heap.size + 1) (Nat.le_succ _) (#[.string name, .int .i64 2, .int .u32 i.mt.mode, .int .u32 i.mt.uid, .int .u32 i.mt.gid, .int .i64 i.mt.time, .int .i32 i.mt.nano, .string ⟨#[]⟩, .string ⟨#[]⟩, .string ⟨#[]⟩, .int .i64 (i.data.length : Int), .int .u8 0, .slice vA i.data.length vc] : Array Value).toList 0 _ ((HB5.out.setCell (p := ⟨w3.heap.size + 1, 12, none⟩) (by have := HS3.out; simp; omega) (.slice vA i.data.length vc)).setCell (p := ⟨w3.heap.size + 1, 10, none⟩) (by have := HS3.out; simp; omega) (.int .i64 (i.data.length : Int)))
  generalize World.setCells _ (w.heap.size + 1) 0 _ = W8 at hrr hoo hbb ⊢
  have L0 : W8.cell? ⟨w.heap.size + 1, 0, none⟩ = some (.string name) := hrr 0 _ rfl
  have L1 : W8.cell? ⟨w.heap.size + 1, 1, none⟩ = some (.int .i64 2) := hrr 1 _ rfl
  have L2 : W8.cell? ⟨w.heap.size + 1, 2, none⟩ = some (.int .u32 i.mt.mode) := hrr 2 _ rfl
  have L3 : W8.cell? ⟨w.heap.size + 1, 3, none⟩ = some (.int .u32 i.mt.uid) := hrr 3 _ rfl
  have L4 : W8.cell? ⟨w.heap.size + 1, 4, none⟩ = some (.int .u32 i.mt.gid) := hrr 4 _ rfl
  have L5 : W8.cell? ⟨w.heap.size + 1, 5, none⟩ = some (.int .i64 i.mt.time) := hrr 5 _ rfl
  have L6 : W8.cell? ⟨w.heap.size + 1, 6, none⟩ = some (.int .i32 i.mt.nano) := hrr 6 _ rfl
  have L7 : W8.cell? ⟨w.heap.size + 1, 7, none⟩ = some (.string ⟨#[]⟩) := hrr 7 _ rfl
  have L8 : W8.cell? ⟨w.heap.size + 1, 8, none⟩ = some (.string ⟨#[]⟩) := hrr 8 _ rfl
  have L9 : W8.cell? ⟨w.heap.size + 1, 9, none⟩ = some (.string ⟨#[]⟩) := hrr 9 _ rfl
  have L10 : W8.cell? ⟨w.heap.size + 1, 10, none⟩ = some (.int .i64 (i.data.length : Int)) := hrr 10 _ rfl
  have L11 : W8.cell? ⟨w.heap.size + 1, 11, none⟩ = some (.int .u8 0) := hrr 11 _ rfl
  have L12 : W8.cell? ⟨w.heap.size + 1, 12, none⟩ = some (.slice vA i.data.length vc) := hrr 12 _ rfl
  refine bodyPost_ret (v := .agg #[.string name, .int .i64 2, .int .u32 i.mt.mode, .int .u32 i.mt.uid, .int .u32 i.mt.gid, .int .i64 i.mt.time, .int .i32 i.mt.nano, .string ⟨#[]⟩, .string ⟨#[]⟩, .string ⟨#[]⟩, .int .i64 (i.data.length : Int), .int .u8 0, .slice vA i.data.length vc]) ?_ rfl ⟨_, rfl, hoo.mono (by have := HS3.out; simp; omega), hbb⟩
  simp [results, Tryz.results55, go_sem, L0, L1, L2, L3, L4, L5, L6, L7, L8, L9, L10, L11, L12]
end
end Go.Proofs.YtcjahipcfcghlaaGreatV

/- xxh: Sum64 of one byte. -/
namespace Go.Proofs.YtcjahipcfcghlaaGreatV
open Go.RowKit
set_option linter.unusedVariables false
set_option linter.unusedSimpArgs false
section
variable {w : World}
theorem slice_one {W : World} {B : Nat} {e : TypeId} {size : Nat} {v : Value} {xs : List Value} (h : W.ownsRow B e size v (0 + 1) xs) : ∃ g gc, v = .slice (some ⟨g, 0, none⟩) 1 gc := by
  rcases h.2 with ⟨_, e⟩ | ⟨g, cap, cur, e, _⟩
  · cases e
  · exact ⟨g, cap, e⟩
def rotV (x : Int) : Int := Go.bits .or .u64 (IntKind.u64.wrap (x * 2048)) (x / 9007199254740992)
theorem rot11 (x : Int) : Calls Tryz.prog 61 #[.int .u64 x, .int .i64 11] w fun e w' => e = .returned (.int .u64 (rotV x)) ∧ w' = w := by
  have hb : Go.bits .and .u64 11 63 = 11 := by decide
  unfold rotV
  go_enter Tryz.func61, Tryz.ntmps61
  go_wp2
  go_ret
  exact ⟨rfl, rfl⟩
theorem begun_calls : Calls Tryz.prog 40 #[.int .u64 0] w fun e w' => e = .returned (.pointer (some ⟨w.heap.size, 0, none⟩)) ∧ w' = w.alloc (.cells #[.slice none 0 0, .int .u64 0, .int .u64 0, .int .u64 (IntKind.u64.wrap 25430182151971714518), .int .u64 14029467366897019727, .int .u64 0, .int .u64 (IntKind.u64.wrap (-11400714785074694791))] 128) := by
  go_enter Tryz.func40, Tryz.ntmps40
  go_wp2
  go_ret
  exact ⟨rfl, rfl⟩
def digC (rest : Value) (n v0 v1 v2 v3 : Int) : Array Value := #[rest, .int .u64 n, .int .u64 0, .int .u64 v0, .int .u64 v1, .int .u64 v2, .int .u64 v3]
set_option maxHeartbeats 1000000 in
theorem pieces_one {B d p c : Nat} {x v0 v1 v2 v3 : Int} (fv : Value) (hd : w.heap[d]? = some (.cells (digC (.slice none 0 0) 0 v0 v1 v2 v3) 128 (0, 0))) (hB : B ≤ d) (hp : w.cell? ⟨p, 0, none⟩ = some (.int .u8 x)) :
    Calls Tryz.prog 57 #[.pointer (some ⟨d, 0, none⟩), .slice (some ⟨p, 0, none⟩) 1 c, .int .i64 32, fv] w fun e w' => e = .returned (.tuple #[]) ∧ ∃ g gc, w'.heap[d]? = some (.cells (digC (.slice (some ⟨g, 0, none⟩) 1 gc) 1 v0 v1 v2 v3) 128 (0, 0)) ∧ w'.cell? ⟨g, 0, none⟩ = some (.int .u8 x) ∧ Below B w w' := by
  obtain ⟨iB, hiB, hzB0, hzB1, hzB2⟩ := info_parts infoByte
  have d0 := cell_of hd 0
  have d1 := cell_of hd 1
  have fd := frozen_of hd
  unfold digC at d0 d1 hd
  simp only [List.getElem?_toArray, List.getElem?_cons_zero, List.getElem?_cons_succ] at d0 d1
  have hne : p ≠ d := fun e => by rw [e, d0] at hp; cases hp
  have hlt := World.block_lt_of_cell? w _ hp
  have hdl := (Array.getElem?_eq_some_iff.1 hd).1
  have hd1 : (w.setCell ⟨d, 1, none⟩ (.int .u64 1)).heap[d]? = some (.cells #[.slice none 0 0, .int .u64 1, .int .u64 0, .int .u64 v0, .int .u64 v1, .int .u64 v2, .int .u64 v3] 128 (0, 0)) := (heap_setCell_at hd 1 (.int .u64 1)).trans rfl
  have HD1 := Lib.hid hd1
  have HNW := Lib.hid (show ∀ j u, ([.int .u8 x] : List Value)[j]? = some u → (w.setCell ⟨d, 1, none⟩ (.int .u64 1)).cell? ((⟨p, 0, none⟩ : Addr).add j) = some u from fun j u hj => by
    match j, hj with
    | 0, hj =>
      simp at hj
      subst hj
      rw [Addr.add_lit]
      exact (World.cell?_setCell_far _ ⟨d, 1, none⟩ ⟨p, 0, none⟩ _ (fun e => hne e.symm)).trans hp)
  have HW1 := Lib.hid (show d < (w.setCell ⟨d, 1, none⟩ (.int .u64 1)).heap.size by simpa [World.setCell] using hdl)
  have HBW := Lib.hid (show Below B w (w.setCell ⟨d, 1, none⟩ (.int .u64 1)) from (Below.refl _ _).setCell (p := ⟨d, 1, none⟩) hB _)
  have HBD := Lib.hid hB
  clear hd hd1 hne hlt hdl hB
  go_enter Tryz.func57, Tryz.ntmps57
  go_wp2_with (at_builtin; refine wpList_append_own_at _ rfl (.tmp 22) (.tmp 23) 40 rfl (w.setCell ⟨d, 1, none⟩ (.int .u64 1)).heap.size 5 iB _ 1 1 Tryz.underlying40 hiB hzB0 hzB1 hzB2 rfl (by decide) (.slice none 0 0) 0 [] rfl ⟨rfl, .inl ⟨rfl, rfl⟩⟩ ⟨p, 0, none⟩ 1 c [.int .u8 x] rfl rfl HNW.out (by simp [Value.oneCell']) (by unfold maxLen; omega) (by omega) (Nat.le_refl _) ?_; intro v9 w9 ho9 hg9 hn9 ha9; obtain ⟨g, gc, rfl⟩ := slice_one ho9; have hd9 : w9.heap[d]? = _ := (hg9.block d HW1.out (by simp [Value.ownBlock])).trans HD1.out; have e0 := cell_of hd9 0; have fe := frozen_of hd9; simp only [List.getElem?_toArray, List.getElem?_cons_zero, List.getElem?_cons_succ] at e0; have HO9 := Lib.hid ho9; have HG9 := Lib.hid hg9; have HD9 := Lib.hid hd9; clear ho9 hg9 hn9 ha9 hd9)
  have hd10 : (w9.setCell ⟨d, 0, none⟩ (.slice (some ⟨g, 0, none⟩) 1 gc)).heap[d]? = some (.cells #[.slice (some ⟨g, 0, none⟩) 1 gc, .int .u64 1, .int .u64 0, .int .u64 v0, .int .u64 v1, .int .u64 v2, .int .u64 v3] 128 (0, 0)) := (heap_setCell_at HD9.out 0 _).trans rfl
  have HO10 := Lib.hid (ownsRow_setCell_below (a := ⟨d, 0, none⟩) HO9.out HW1.out (.slice (some ⟨g, 0, none⟩) 1 gc))
  have HB10 := Lib.hid (((HBW.out.grown HG9.out (Nat.le_trans HBD.out (Nat.le_of_lt HW1.out)) (fun k e => by simp [Value.ownBlock] at e))).setCell (p := ⟨d, 0, none⟩) HBD.out (.slice (some ⟨g, 0, none⟩) 1 gc))
  have g0 := cell_of hd10 0
  have gf := frozen_of hd10
  simp only [List.getElem?_toArray, List.getElem?_cons_zero, List.getElem?_cons_succ] at g0
  have HD10 := Lib.hid hd10
  have HL10 := Lib.hid (Array.getElem?_eq_some_iff.1 hd10).1
  clear e0 fe HO9 HG9 HD9 hd10 d0 d1 fd
  generalize w9.setCell ⟨d, 0, none⟩ (.slice (some ⟨g, 0, none⟩) 1 gc) = w10 at HO10 HB10 HD10 HL10 g0 gf ⊢
  refine wp_loop_rounds 1 ?_
  rw [rounds_succ]
  go_wp2_with fail
  refine (clone_mid HO10.out (by simp [Value.oneCell']) 0 1 (by omega) (by omega) gc).mono ?_
  rintro e w11 ⟨v', rfl, ho11, hb11⟩
  obtain ⟨g', gc', rfl⟩ := slice_one ho11
  have hd11 : w11.heap[d]? = _ := (hb11.block d HL10.out).trans HD10.out
  have k0 := cell_of hd11 0
  have kf := frozen_of hd11
  simp only [List.getElem?_toArray, List.getElem?_cons_zero, List.getElem?_cons_succ] at k0
  have HO11 := Lib.hid ho11
  have HD11 := Lib.hid hd11
  have HB11 := Lib.hid (HB10.out.trans (hb11.mono (Nat.le_trans HBD.out (Nat.le_of_lt HL10.out))))
  clear ho11 hd11 hb11
  go_wp2
  go_end0
  have hx := (ownsRow_setCell_below (a := ⟨d, 0, none⟩) HO11.out HL10.out (.slice (some ⟨g', 0, none⟩) 1 gc')).cells (g := g') rfl 0 (.int .u8 x) (by simp)
  rw [Addr.add_lit] at hx
  exact ⟨rfl, g', gc', (heap_setCell_at HD11.out 0 _).trans rfl, hx, HB11.out.setCell (p := ⟨d, 0, none⟩) HBD.out _⟩
theorem takes_one {B d p c : Nat} {x v0 v1 v2 v3 : Int} (hd : w.heap[d]? = some (.cells (digC (.slice none 0 0) 0 v0 v1 v2 v3) 128 (0, 0))) (hB : B ≤ d) (hp : w.cell? ⟨p, 0, none⟩ = some (.int .u8 x)) :
    Calls Tryz.prog 41 #[.pointer (some ⟨d, 0, none⟩), .slice (some ⟨p, 0, none⟩) 1 c] w fun e w' => e = .returned (.tuple #[]) ∧ ∃ g gc, w'.heap[d]? = some (.cells (digC (.slice (some ⟨g, 0, none⟩) 1 gc) 1 v0 v1 v2 v3) 128 (0, 0)) ∧ w'.cell? ⟨g, 0, none⟩ = some (.int .u8 x) ∧ Below B w w' := by
  have hdl := (Array.getElem?_eq_some_iff.1 hd).1
  have ha := alloc_below w (.cells #[.pointer (some ⟨d, 0, none⟩)] 96)
  have HP := Lib.hid (fun fv => pieces_one (w := w.alloc (.cells #[.pointer (some ⟨d, 0, none⟩)] 96)) (B := B) (c := c) fv ((ha.block d hdl).trans hd) hB ((ha.cell (p := ⟨p, 0, none⟩) (World.block_lt_of_cell? w _ hp)).trans hp))
  have HA := Lib.hid (ha.mono (Nat.le_trans hB (Nat.le_of_lt hdl)))
  clear hd hp ha hdl
  go_enter Tryz.func41, Tryz.ntmps41
  go_wp2_with fail
  refine (HP.out _).mono ?_
  rintro e w1 ⟨rfl, g, gc, h1, h2, h3⟩
  have H1 := Lib.hid h1
  have H2 := Lib.hid h2
  have H3 := Lib.hid h3
  clear h1 h2 h3
  go_wp2
  go_end0
  exact ⟨rfl, g, gc, H1.out, H2.out, HA.out.trans H3.out⟩
def x1 : Int := IntKind.u64.wrap (rotV (Go.bits .xor .u64 2870177450012600262 (IntKind.u64.wrap 344421294001512031320)) * 11400714785074694791)
def x2 : Int := IntKind.u64.wrap (Go.bits .xor .u64 x1 (x1 / 8589934592) * 14029467366897019727)
def x3 : Int := IntKind.u64.wrap (Go.bits .xor .u64 x2 (x2 / 536870912) * 1609587929392839161)
/-- The sum of the one byte 'x'. -/
def sumX : Int := Go.bits .xor .u64 x3 (x3 / 4294967296)
set_option maxHeartbeats 2000000 in
theorem sum_one : ∀ (w : World) (d g gc : Nat) (v0 v1 v2 v3 : Int), w.heap[d]? = some (.cells (digC (.slice (some ⟨g, 0, none⟩) 1 gc) 1 v0 v1 v2 v3) 128 (0, 0)) → w.cell? ⟨g, 0, none⟩ = some (.int .u8 120) →
    Calls Tryz.prog 42 #[.pointer (some ⟨d, 0, none⟩)] w fun e w' => e = .returned (.int .u64 sumX) ∧ w' = w := by
  intro w d g gc v0 v1 v2 v3 hd hg
  · have d0 := cell_of hd 0
    have d1 := cell_of hd 1
    have d2 := cell_of hd 2
    unfold digC at d0 d1 d2
    simp only [List.getElem?_toArray, List.getElem?_cons_zero, List.getElem?_cons_succ] at d0 d1 d2
    clear hd
    go_enter Tryz.func42, Tryz.ntmps42
    go_wp2
    refine wp_loop_rounds 1 ?_
    rw [rounds_succ]
    go_wp2
    refine wp_loop_rounds 2 ?_
    rw [rounds_succ]
    go_wp2_with fail
    refine (rot11 _).mono ?_
    rintro e w1 ⟨rfl, rfl⟩
    go_wp2
    rw [rounds_succ]
    go_wp2
    go_ret
    exact ⟨by unfold sumX x3 x2 x1; rfl, rfl⟩
theorem Sum64_x {p c : Nat} (hp : w.cell? ⟨p, 0, none⟩ = some (.int .u8 120)) : Calls Tryz.prog 25 #[.int .u64 0, .slice (some ⟨p, 0, none⟩) 1 c] w fun e w' => e = .returned (.int .u64 sumX) ∧ Below w.heap.size w w' := by
  have hpl := World.block_lt_of_cell? w _ hp
  have ha := alloc_below w (.cells (digC (.slice none 0 0) 0 (IntKind.u64.wrap 25430182151971714518) 14029467366897019727 0 (IntKind.u64.wrap (-11400714785074694791))) 128)
  have HT := Lib.hid (takes_one (w := w.alloc (.cells (digC (.slice none 0 0) 0 (IntKind.u64.wrap 25430182151971714518) 14029467366897019727 0 (IntKind.u64.wrap (-11400714785074694791))) 128)) (B := w.heap.size) (c := c) (Go.heap_alloc_new w _) (Nat.le_refl _) ((ha.cell (p := ⟨p, 0, none⟩) hpl).trans hp))
  have HA := Lib.hid ha
  clear ha hp hpl
  go_enter Tryz.func25, Tryz.ntmps25
  go_wp2_with fail
  refine begun_calls.mono ?_
  rintro e w1 ⟨rfl, rfl⟩
  go_wp2_with fail
  refine HT.out.mono ?_
  rintro e w2 ⟨rfl, g, gc, h1, h2, h3⟩
  have H3 := Lib.hid h3
  have HS := Lib.hid (sum_one w2 _ g gc _ _ _ _ h1 h2)
  clear h1 h2 h3
  go_wp2_with fail
  refine HS.out.mono ?_
  rintro e w3 ⟨rfl, rfl⟩
  go_wp2
  go_ret
  exact ⟨rfl, HA.out.trans H3.out⟩
end
end Go.Proofs.YtcjahipcfcghlaaGreatV
