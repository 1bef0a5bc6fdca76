/- vfs, pack, compare: contracts of the functions (texts VNewer, VLivesA, VLivesC, MERGED). -/
import Derived.Test.YtcjahipcfcghlaaGreatVSort1
import Derived.Test.YtcjahipcfcghlaaGreatVNew
import Derived.Laws.BytesString
import Derived.Lib.SlBytesConst
/- compare: Newer of a tree of one name, marked when it had two. -/
namespace Go.Proofs.YtcjahipcfcghlaaGreatV
open Go.RowKit Go.Shelf
set_option linter.unusedVariables false
set_option linter.unusedSimpArgs false
/-- What Newer holds on to while it walks: a map in a box. -/
structure NwAt (W w0 : World) (xb mb base : Nat) (fm : List (ByteArray × Int)) : Prop where
  below : Below w0.heap.size w0 W
  box : W.heap[xb]? = some (.cells #[.map (some mb)] 58 (0, 0))
  map : MapAt keyStr encN W mb fm
  le : w0.heap.size ≤ mb ∧ mb < xb ∧ xb < base ∧ base ≤ W.heap.size
theorem NwAt.of_below {W W' w0 : World} {xb mb base : Nat} {fm : List (ByteArray × Int)} (h : NwAt W w0 xb mb base fm) (hB : Below base W W') : NwAt W' w0 xb mb base fm := by
  have := h.le
  exact ⟨h.below.trans (hB.mono (by omega)), (hB.block _ (by omega)).trans h.box, h.map.of_block (hB.block _ (by omega)), by have := hB.size; omega⟩
theorem NwAt.put {W W' w0 : World} {xb mb base : Nat} {fm fm' : List (ByteArray × Int)} (h : NwAt W w0 xb mb base fm) (hM : MapAt keyStr encN W' mb fm') (hT : Turned W W' mb) : NwAt W' w0 xb mb base fm' := by
  have := h.le
  exact ⟨⟨hT.os.trans h.below.os, hT.tape.trans h.below.tape, hT.output.trans h.below.output, by rw [hT.size]; exact h.below.size, fun k hk => (hT.block k (by omega)).trans (h.below.block k hk)⟩, (hT.block _ (by omega)).trans h.box, hM, by rw [hT.size]; exact h.le⟩
theorem NwAt.made (w1 w0 : World) (hB : Below w0.heap.size w0 w1) : NwAt ((w1.alloc (.map #[] 0)).alloc (.cells #[.map (some w1.heap.size)] 58)) w0 (w1.heap.size + 1) w1.heap.size (w1.heap.size + 2) [] := by
  refine ⟨hB.trans ((below_two w1 _ _).mono hB.size), by have := Go.heap_alloc_new (w1.alloc (.map #[] 0)) (.cells #[.map (some w1.heap.size)] 58); simpa using this, ?_, by have := hB.size; simp; omega⟩
  have := MapAt.made (K := keyStr) (venc := encN) w1
  exact this.of_block (Below.heap_alloc _ _ _ (by simp))
section
variable {w : World} {B f : Nat} {own : Nat → Option Int} {Ph : Phys} {S : FSt}
set_option maxHeartbeats 4000000 in
set_option maxRecDepth 100000 in
theorem Newer_of (h : FSRep w B f own Ph S) {dir : Int} {na nb nc : ByteArray} {mt : Mt} (o : OneFile S dir nb nc mt 1) (hab : na ≠ nb) (hna : na.size ≤ maxLen) {ob oc : Nat} (hold : ∀ j u, (marksM na mt 2 nb)[j]? = some u → w.cell? ⟨ob, j, none⟩ = some u)
    (hC : ∀ W n nc', 1 ≤ nc' → Below w.heap.size w W → (∀ j u, (marksM nb mt 1 nc)[j]? = some u → W.cell? ⟨n, j, none⟩ = some u) →
      Calls Tryz.prog 6 #[.slice (some ⟨ob, 0, none⟩) 2 oc, .slice (some ⟨n, 0, none⟩) 1 nc'] W fun e w' => ∃ v, e = .returned v ∧ w'.ownsRow W.heap.size 27 2 v 2 [.string na, .int .i64 2, .string nb, .int .i64 32] ∧ Below W.heap.size W w') :
    Calls Tryz.prog 13 #[.pointer (some ⟨f, 0, none⟩), .int .i64 dir, .slice (some ⟨ob, 0, none⟩) 2 oc] w fun e w' => ∃ l dv g, e = .returned (.tuple #[l, g, .int .i64 0]) ∧ w'.ownsRow w.heap.size 55 13 l 1 (packsM nb mt dv 1 nc) ∧ w'.ownsRow w.heap.size 9 1 g 1 [.string na] ∧ Below w.heap.size w w' := by
  have HMK := Lib.hid (Marks_calls h o)
  have HTR := Lib.hid (fun (W : World) (hW : Below w.heap.size w W) => Tree_calls (h.of_below hW) o)
  have HC := Lib.hid hC
  have HOLD := Lib.hid hold
  have HAB := Lib.hid (And.intro hab hna)
  clear h o hC hold hab hna
  go_enter Tryz.func13, Tryz.ntmps13
  go_wp2_with fail
  refine HMK.out.mono ?_
  rintro e w1 ⟨v, rfl, ho, hb1⟩
  obtain ⟨g, cap, rfl, hcap, hg1, hgc⟩ : ∃ g cap, v = .slice (some ⟨g, 0, none⟩) 1 cap ∧ 1 ≤ cap ∧ g < w1.heap.size ∧ ∀ j u, (marksM nb mt 1 nc)[j]? = some u → w1.cell? ⟨g, j, none⟩ = some u := by
    rcases ho.2 with ⟨_, e0⟩ | ⟨g, cap, cur, e1, hg, hh, hc, _⟩
    · omega
    · have hob : v.ownBlock = some g := by rw [e1]; rfl
      refine ⟨g, cap, e1, hc, (ho.lt g hob).2, fun j u hj => ?_⟩
      have := ho.cells hob _ _ hj
      rwa [Addr.add_lit, Nat.zero_add] at this
  have hmm := @run_makeMap Tryz.prog
  have HN3 := Lib.hid (NwAt.made w1 w hb1)
  have HG3 := Lib.hid (fun j u hj => ((below_two w1 (.map #[] 0) (.cells #[.map (some w1.heap.size)] 58)).cell (p := ⟨g, j, none⟩) hg1).trans (hgc j u hj))
  have HCAP := Lib.hid hcap
  clear ho hgc hg1 hcap hb1 HMK
  go_wp2_with fail
  generalize (w1.alloc (.map #[] 0)).alloc (.cells #[.map (some w1.heap.size)] 58) = w3 at HN3 HG3 ⊢
  generalize w1.heap.size = mb at *
  clear w1 hmm
  refine (HC.out w3 g cap HCAP.out HN3.out.below HG3.out).mono ?_
  rintro e w4 ⟨v, rfl, ho4, hb4⟩
  obtain ⟨dg, dcap, rfl, hdg1, hdg2, c0, c1, c2, c3⟩ : ∃ dg dcap, v = .slice (some ⟨dg, 0, none⟩) 2 dcap ∧ mb + 2 ≤ dg ∧ dg < w4.heap.size ∧ w4.cell? ⟨dg, 0, none⟩ = some (.string na) ∧ w4.cell? ⟨dg, 1, none⟩ = some (.int .i64 2) ∧ w4.cell? ⟨dg, 2, none⟩ = some (.string nb) ∧ w4.cell? ⟨dg, 3, none⟩ = some (.int .i64 32) := by
    rcases ho4.2 with ⟨_, e0⟩ | ⟨g, cap, cur, e1, hg, hh, hc, _⟩
    · omega
    · have hob : v.ownBlock = some g := by rw [e1]; rfl
      have k0 := ho4.cells hob 0 _ rfl
      have k1 := ho4.cells hob 1 _ rfl
      have k2 := ho4.cells hob 2 _ rfl
      have k3 := ho4.cells hob 3 _ rfl
      rw [Addr.add_lit] at k0 k1 k2 k3
      exact ⟨g, cap, e1, Nat.le_trans HN3.out.le.2.2.2 hg, (ho4.lt g hob).2, k0, k1, k2, k3⟩
  have HN4 := Lib.hid (HN3.out.of_below (hb4.mono HN3.out.le.2.2.2))
  have HD4 := Lib.hid (And.intro hdg1 (And.intro c2 c3))
  have hn4 := HN4.out.of_below ((alloc_below w4 (.cells #[.string na, .int .i64 2] 27)).mono HN4.out.le.2.2.2)
  have x0 : (w4.alloc (.cells #[.string na, .int .i64 2] 27)).cell? ⟨mb + 1, 0, none⟩ = some (.map (some mb)) := (cell_of hn4.box 0).trans rfl
  obtain ⟨w5, hput, hM5, hT5⟩ := hn4.map.put (P := Tryz.prog) (t := 58) (kt := 9) (et := 3) Tryz.underlying58 Tryz.underlying9 na (2 : Int)
  have hput' : (Instr.mapUpdate 58 (.map (some mb)) (.string na) (.int .i64 2)).run Tryz.prog (w4.alloc (.cells #[.string na, .int .i64 2] 27)) = .ok () w5 := hput
  have HN5 := Lib.hid (hn4.put hM5 hT5)
  have hd5 : ∀ j, w5.cell? ⟨dg, j, none⟩ = w4.cell? ⟨dg, j, none⟩ := fun j => (World.cell?_of_block (w := w4.alloc (.cells #[.string na, .int .i64 2] 27)) (a := ⟨dg, j, none⟩) (hT5.block dg (by omega))).trans ((alloc_below w4 (.cells #[.string na, .int .i64 2] 27)).cell (p := ⟨dg, j, none⟩) hdg2)
  have HD5 := Lib.hid (And.intro ((hd5 2).trans c2) ((hd5 3).trans c3))
  clear hput hM5 hT5 hn4 hd5 c2 c3 ho4 hb4 HG3 HN3 hdg1 hdg2
  go_wp2_with fail
  refine wp_loop_rounds 3 ?_
  rw [rounds_succ]
  go_wp2_with fail
  clear x0 hput' c0 c1 HN4 HD4
  generalize w4.heap.size = b4
  clear w4
  have c2 := HD5.out.1
  have c3 := HD5.out.2
  have hn5 := HN5.out.of_below ((alloc_below w5 (.cells #[.string nb, .int .i64 32] 27)).mono HN5.out.le.2.2.2)
  have x0 : (w5.alloc (.cells #[.string nb, .int .i64 32] 27)).cell? ⟨mb + 1, 0, none⟩ = some (.map (some mb)) := (cell_of hn5.box 0).trans rfl
  obtain ⟨w7, hput, hM7, hT7⟩ := hn5.map.put (P := Tryz.prog) (t := 58) (kt := 9) (et := 3) Tryz.underlying58 Tryz.underlying9 nb (32 : Int)
  have hput' : (Instr.mapUpdate 58 (.map (some mb)) (.string nb) (.int .i64 32)).run Tryz.prog (w5.alloc (.cells #[.string nb, .int .i64 32] 27)) = .ok () w7 := hput
  have hfm : aset nb (32 : Int) (aset na (2 : Int) []) = [(na, 2), (nb, 32)] := by simp [aset, HAB.out.1]
  rw [hfm] at hM7
  have HN7 := Lib.hid (hn5.put hM7 hT7)
  clear hput hM7 hT7 hn5 hfm HD5 HN5
  rw [rounds_succ]
  go_wp2_with fail
  clear x0 hput' c2 c3
  generalize w5.heap.size = b5
  clear w5
  rw [rounds_succ]
  go_wp2_with fail
  refine (HTR.out w7 HN7.out.below).mono ?_
  rintro e w8 ⟨v, dv, rfl, ho8, hd8, hb8⟩
  obtain ⟨lg, lcap, rfl, hgc⟩ : ∃ g cap, v = .slice (some ⟨g, 0, none⟩) 1 cap ∧ w8.rangeAt g 0 (packC nb 2 mt ⟨#[]⟩ 1 dv).toList := by
    rcases ho8.2 with ⟨_, e0⟩ | ⟨g, cap, cur, e1, hg, hh, hc, _⟩
    · omega
    · have hob : v.ownBlock = some g := by rw [e1]; rfl
      refine ⟨g, cap, e1, fun j u hj => ?_⟩
      have := ho8.cells hob j u (by unfold packsM; simpa using hj)
      rwa [Addr.add_lit] at this
  have HN8 := Lib.hid (HN7.out.of_below (hb8.mono HN7.out.le.2.2.2))
  have HL8 := Lib.hid (ho8.mono HN7.out.below.size)
  have HR8 := Lib.hid hgc
  clear ho8 hd8 hb8 hgc HN7
  clear w7
  go_wp2_with fail
  refine (deleteFunc_one HN8.out.map ((cell_of HN8.out.box 0).trans rfl) HR8.out (k := 32) (by simp [aget, HAB.out.1]) (by omega)).mono ?_
  rintro e w9 ⟨rfl, hb9⟩
  have HN9 := Lib.hid (HN8.out.of_below (hb9.mono HN8.out.le.2.2.2))
  have HL9 := Lib.hid (own_keep HL8.out hb9)
  clear hb9 HN8 HL8 HR8
  clear w8
  have hmm := @run_makeMap Tryz.prog
  go_wp2_with fail
  have hb10 := below_two w9 (.map #[] 0) (.cells #[.map (some w9.heap.size)] 58)
  have HQ10 := Lib.hid (NwAt.made w9 w HN9.out.below)
  have HN10 := Lib.hid (HN9.out.of_below (hb10.mono HN9.out.le.2.2.2))
  have HL10 := Lib.hid (own_keep HL9.out hb10)
  have HLE := Lib.hid (show mb + 2 ≤ w9.heap.size from HN9.out.le.2.2.2)
  have HLG := Lib.hid (show lg < w9.heap.size from (HL9.out.lt lg rfl).2)
  clear hb10 HN9 HL9 hmm
  generalize (w9.alloc (.map #[] 0)).alloc (.cells #[.map (some w9.heap.size)] 58) = w10 at HQ10 HN10 HL10 ⊢
  generalize w9.heap.size = pb at *
  clear w9
  have hob : ob < w.heap.size := World.block_lt_of_cell? w _ (HOLD.out 0 _ rfl)
  have HW := Lib.hid (fun (W : World) (hW : Below w.heap.size w W) => (show W.rangeAt ob 0 (#[.string na, .int .i64 2, .int .u32 mt.mode, .int .u32 mt.uid, .int .u32 mt.gid, .int .i64 mt.time, .int .i32 mt.nano, .int .i64 1, .int .u64 sumX, .string ⟨#[]⟩] : Array Value).toList ∧ W.rangeAt ob 10 (#[.string nb, .int .i64 2, .int .u32 mt.mode, .int .u32 mt.uid, .int .u32 mt.gid, .int .i64 mt.time, .int .i32 mt.nano, .int .i64 1, .int .u64 sumX, .string na] : Array Value).toList from
    ⟨fun j u hj => (hW.cell (p := ⟨ob, 0 + j, none⟩) hob).trans (HOLD.out _ _ (by unfold marksM markC; rw [Nat.zero_add, List.getElem?_append_left (List.getElem?_eq_some_iff.1 hj).1]; exact hj)),
      fun j u hj => (hW.cell (p := ⟨ob, 10 + j, none⟩) hob).trans (HOLD.out _ _ (by unfold marksM markC; rw [List.getElem?_append_right (by simp)]; simpa using hj))⟩))
  clear hob HOLD
  have HI46 := Lib.hid info46
  have HR1 := Lib.hid (HW.out w10 HN10.out.below).1
  have hn11 := HN10.out.of_below ((alloc_below w10 (.cells #[.string na, .int .i64 2, .int .u32 mt.mode, .int .u32 mt.uid, .int .u32 mt.gid, .int .i64 mt.time, .int .i32 mt.nano, .int .i64 1, .int .u64 sumX, .string ⟨#[]⟩] 46)).mono HN10.out.le.2.2.2)
  have hq11 := HQ10.out.of_below ((alloc_below w10 (.cells #[.string na, .int .i64 2, .int .u32 mt.mode, .int .u32 mt.uid, .int .u32 mt.gid, .int .i64 mt.time, .int .i32 mt.nano, .int .i64 1, .int .u64 sumX, .string ⟨#[]⟩] 46)).mono HQ10.out.le.2.2.2)
  have x1 : (w10.alloc (.cells #[.string na, .int .i64 2, .int .u32 mt.mode, .int .u32 mt.uid, .int .u32 mt.gid, .int .i64 mt.time, .int .i32 mt.nano, .int .i64 1, .int .u64 sumX, .string ⟨#[]⟩] 46)).cell? ⟨mb + 1, 0, none⟩ = some (.map (some mb)) := (cell_of hn11.box 0).trans rfl
  have x2 : (w10.alloc (.cells #[.string na, .int .i64 2, .int .u32 mt.mode, .int .u32 mt.uid, .int .u32 mt.gid, .int .i64 mt.time, .int .i32 mt.nano, .int .i64 1, .int .u64 sumX, .string ⟨#[]⟩] 46)).cell? ⟨pb + 1, 0, none⟩ = some (.map (some pb)) := (cell_of hq11.box 0).trans rfl
  have hl := hn11.map.look (P := Tryz.prog) (t := 58) (kt := 9) (et := 3) Tryz.underlying58 Tryz.underlying9 (zeroN _) na false
  have hl' : (Instr.lookup 58 (.map (some mb)) (.string na) false).run Tryz.prog (w10.alloc (.cells #[.string na, .int .i64 2, .int .u32 mt.mode, .int .u32 mt.uid, .int .u32 mt.gid, .int .i64 mt.time, .int .i32 mt.nano, .int .i64 1, .int .u64 sumX, .string ⟨#[]⟩] 46)) = .ok (.int .i64 2) (w10.alloc (.cells #[.string na, .int .i64 2, .int .u32 mt.mode, .int .u32 mt.uid, .int .u32 mt.gid, .int .i64 mt.time, .int .i32 mt.nano, .int .i64 1, .int .u64 sumX, .string ⟨#[]⟩] 46)) := by
    simpa [aget, keyStr, encN] using hl
  obtain ⟨w12, hput, hM12, hT12⟩ := hq11.map.put (P := Tryz.prog) (t := 58) (kt := 9) (et := 3) Tryz.underlying58 Tryz.underlying9 na (0 : Int)
  have hput' : (Instr.mapUpdate 58 (.map (some pb)) (.string na) (.int .i64 0)).run Tryz.prog (w10.alloc (.cells #[.string na, .int .i64 2, .int .u32 mt.mode, .int .u32 mt.uid, .int .u32 mt.gid, .int .i64 mt.time, .int .i32 mt.nano, .int .i64 1, .int .u64 sumX, .string ⟨#[]⟩] 46)) = .ok () w12 := hput
  have HQ12 := Lib.hid (hq11.put hM12 hT12)
  have HN12 := Lib.hid (show NwAt w12 w (mb + 1) mb (mb + 2) [(na, 2), (nb, 32)] from
    have h := hn11
    have hle := HLE.out
    ⟨HQ12.out.below, (hT12.block _ (by omega)).trans h.box, h.map.of_block (hT12.block _ (by omega)), by have := h.le; rw [hT12.size]; exact this⟩)
  have HL12 := Lib.hid (show w12.ownsRow w.heap.size 55 13 (.slice (some ⟨lg, 0, none⟩) 1 lcap) 1 (packsM nb mt dv 1 nc) from
    own_move (own_allocG HL10.out (.cells #[.string na, .int .i64 2, .int .u32 mt.mode, .int .u32 mt.uid, .int .u32 mt.gid, .int .i64 mt.time, .int .i32 mt.nano, .int .i64 1, .int .u64 sumX, .string ⟨#[]⟩] 46)) fun k hk => hT12.block k (by simp [Value.ownBlock] at hk; have := HLG.out; omega))
  have HR2 := Lib.hid (HW.out w12 HN12.out.below).2
  clear hl hput hM12 hT12 hn11 hq11 HQ10 HN10 HL10 HW
  refine wp_loop_rounds 3 ?_
  rw [rounds_succ]
  go_wp2_with (refine wpList_load_mid rfl 46 (.tmp 61) rfl ob 0 rfl _ _ HR1.out Tryz.underlying46 rfl HI46.out ?_)
  clear x1 x2 hl' hput' HR1
  generalize w10.heap.size = b10
  clear w10
  have hn13 := HN12.out.of_below ((alloc_below w12 (.cells #[.string nb, .int .i64 2, .int .u32 mt.mode, .int .u32 mt.uid, .int .u32 mt.gid, .int .i64 mt.time, .int .i32 mt.nano, .int .i64 1, .int .u64 sumX, .string na] 46)).mono HN12.out.le.2.2.2)
  have x1 : (w12.alloc (.cells #[.string nb, .int .i64 2, .int .u32 mt.mode, .int .u32 mt.uid, .int .u32 mt.gid, .int .i64 mt.time, .int .i32 mt.nano, .int .i64 1, .int .u64 sumX, .string na] 46)).cell? ⟨mb + 1, 0, none⟩ = some (.map (some mb)) := (cell_of hn13.box 0).trans rfl
  have hl := hn13.map.look (P := Tryz.prog) (t := 58) (kt := 9) (et := 3) Tryz.underlying58 Tryz.underlying9 (zeroN _) nb false
  have hl' : (Instr.lookup 58 (.map (some mb)) (.string nb) false).run Tryz.prog (w12.alloc (.cells #[.string nb, .int .i64 2, .int .u32 mt.mode, .int .u32 mt.uid, .int .u32 mt.gid, .int .i64 mt.time, .int .i32 mt.nano, .int .i64 1, .int .u64 sumX, .string na] 46)) = .ok (.int .i64 32) (w12.alloc (.cells #[.string nb, .int .i64 2, .int .u32 mt.mode, .int .u32 mt.uid, .int .u32 mt.gid, .int .i64 mt.time, .int .i32 mt.nano, .int .i64 1, .int .u64 sumX, .string na] 46)) := by
    simpa [aget, keyStr, encN, HAB.out.1] using hl
  have HQ13 := Lib.hid (HQ12.out.of_below ((alloc_below w12 (.cells #[.string nb, .int .i64 2, .int .u32 mt.mode, .int .u32 mt.uid, .int .u32 mt.gid, .int .i64 mt.time, .int .i32 mt.nano, .int .i64 1, .int .u64 sumX, .string na] 46)).mono HQ12.out.le.2.2.2))
  have HL13 := Lib.hid (own_allocG HL12.out (.cells #[.string nb, .int .i64 2, .int .u32 mt.mode, .int .u32 mt.uid, .int .u32 mt.gid, .int .i64 mt.time, .int .i32 mt.nano, .int .i64 1, .int .u64 sumX, .string na] 46))
  have x2 : (w12.alloc (.cells #[.string nb, .int .i64 2, .int .u32 mt.mode, .int .u32 mt.uid, .int .u32 mt.gid, .int .i64 mt.time, .int .i32 mt.nano, .int .i64 1, .int .u64 sumX, .string na] 46)).cell? ⟨pb + 1, 0, none⟩ = some (.map (some pb)) := (cell_of HQ13.out.box 0).trans rfl
  clear hl hn13 HN12 HQ12 HL12
  rw [rounds_succ]
  go_wp2_with (refine wpList_load_mid rfl 46 (.tmp 61) rfl ob 10 rfl _ _ HR2.out Tryz.underlying46 rfl HI46.out ?_)
  rw [rounds_succ]
  go_wp2_with fail
  generalize w12.heap.size = b12 at *
  generalize w12.alloc (.cells #[.string nb, .int .i64 2, .int .u32 mt.mode, .int .u32 mt.uid, .int .u32 mt.gid, .int .i64 mt.time, .int .i32 mt.nano, .int .i64 1, .int .u64 sumX, .string na] 46) = w13 at *
  clear x1 hl' HR2
  clear w12
  refine (callsIn_wide.1 (Tryz.maps_Keys_17 _ _)).mono ?_
  rintro e w14 ⟨rfl, rfl⟩
  have HQ14 := Lib.hid (HQ13.out.of_below ((alloc_below w13 (.cells #[.map (some pb)] 58)).mono HQ13.out.le.2.2.2))
  have HL14 := Lib.hid (own_allocG HL13.out (.cells #[.map (some pb)] 58))
  have x14 : (w13.alloc (.cells #[.map (some pb)] 58)).cell? ⟨w13.heap.size, 0, none⟩ = some (.map (some pb)) := (cell_of (Go.heap_alloc_new w13 _) 0).trans rfl
  go_wp2_with fail
  refine (sortedFunc_one HQ14.out.map HAB.out.2 x14 _).mono ?_
  rintro e w15 ⟨gv, rfl, ho15, hb15⟩
  have HO15 := Lib.hid ho15
  have HL15 := Lib.hid (own_keep HL14.out hb15)
  have HB15 := Lib.hid (HQ14.out.of_below (hb15.mono HQ14.out.le.2.2.2)).below
  have HS := Lib.hid HQ14.out.below.size
  clear ho15 hb15 x2 x14 HQ13 HQ14 HL13 HL14
  go_wp2_with fail
  go_ret3
  exact ⟨_, _, _, rfl, HL15.out, HO15.out.mono HS.out, HB15.out⟩
end
end Go.Proofs.YtcjahipcfcghlaaGreatV

/- the states of satchellaw24's lives. -/
namespace Go.Proofs.YtcjahipcfcghlaaGreatV
open Go.RowKit
set_option linter.unusedVariables false
set_option linter.unusedSimpArgs false
def invB (S : FSt) : Bool := decide (1 ≤ S.nodes ∧ S.nodes ≤ 4096) && decide (0 ≤ S.bytes ∧ S.bytes ≤ 4194304) && decide (2 ≤ S.next ∧ S.next ≤ 1099511627776) && decide (0 ≤ S.used ∧ S.used ≤ S.bytes) && decide ((S.inodes.length : Int) ≤ S.nodes) && decide (S.trace.length ≤ 1000000000)
  && S.inodes.all (fun p => decide (p.2.data.length ≤ 4194304) && decide (0 ≤ p.2.links) && decide (p.2.links ≤ 1000000000000) && decide (p.2.target.size ≤ 4096) && decide (p.2.ents.length ≤ 1000000000000) && decide (p.1 < S.next))
  && S.inodes.all (fun p => p.2.ents.all (fun e => (aget e.2 S.inodes).isSome))
theorem inv_of {S : FSt} (h : invB S = true) : Inv S := by
  unfold invB at h
  simp only [Bool.and_eq_true, decide_eq_true_eq] at h
  obtain ⟨⟨⟨⟨⟨⟨⟨h1, h2⟩, h3⟩, h4⟩, h5⟩, h6⟩, h7⟩, h8⟩ := h
  refine ⟨h1, h2, h3, h4, h5, h6, fun n i hi => ?_, fun n i hi e he => ?_⟩
  · have := List.all_eq_true.1 h7 _ (aget_mem hi)
    simp only [Bool.and_eq_true, decide_eq_true_eq] at this
    exact ⟨this.1.1.1.1.1, this.1.1.1.1.2, this.1.1.1.2, this.1.1.2, this.1.2, this.2⟩
  · have := List.all_eq_true.1 (List.all_eq_true.1 h8 _ (aget_mem hi)) e he
    exact Option.isSome_iff_exists.1 this
def sa : ByteArray := ⟨#[97]⟩
def sb : ByteArray := ⟨#[98]⟩
def L0 : FSt := stNew 9 99
def L1 : FSt := (createS L0 1 ⟨#[97]⟩ zeroMt).2.2
def L2 : FSt := (writeS L1 2 0 [120]).2
def L3 : FSt := (linkS L2 1 ⟨#[98]⟩ 2).2
def L4 : FSt := (takesS L3 7 1 ⟨#[97]⟩).2
theorem m0 : (createS L0 1 ⟨#[97]⟩ zeroMt).1 = 2 ∧ (createS L0 1 ⟨#[97]⟩ zeroMt).2.1 = 0 := by decide
theorem m1 : (writeS L1 2 0 [120]).1 = 0 := by decide
theorem m2 : (linkS L2 1 ⟨#[98]⟩ 2).1 = 0 := by decide
theorem m3 : (takesS L3 7 1 ⟨#[97]⟩).1 = 0 := by decide
theorem i0 : Inv L0 := inv_of (by decide)
theorem i1 : Inv L1 := inv_of (by decide)
theorem i2 : Inv L2 := inv_of (by decide)
theorem i3 : Inv L3 := inv_of (by decide)
theorem i4 : Inv L4 := inv_of (by decide)
theorem ents_ab (a b : Int) : entsOf [(⟨#[97]⟩, a), (⟨#[98]⟩, b)] = [(⟨#[97]⟩, a), (⟨#[98]⟩, b)] := by
  have hk : keysOf [((⟨#[97]⟩ : ByteArray), a), (⟨#[98]⟩, b)] = [⟨#[97]⟩, ⟨#[98]⟩] := by
    unfold keysOf
    rw [List.mergeSort_of_pairwise]
    · rfl
    · simp
      decide
  unfold entsOf
  rw [hk]
  rfl
theorem ents_b (b : Int) : entsOf [(⟨#[98]⟩, b)] = [(⟨#[98]⟩, b)] := by
  have hk : keysOf [((⟨#[98]⟩ : ByteArray), b)] = [⟨#[98]⟩] := by
    unfold keysOf
    rw [List.mergeSort_of_pairwise]
    · rfl
    · simp
  unfold entsOf
  rw [hk]
  rfl
theorem one3 : OneFile L3 1 ⟨#[97]⟩ ⟨#[98]⟩ zeroMt 2 where
  inv := i3
  two := .inr rfl
  at_ := ⟨_, 2, _, rfl, rfl, by decide, rfl, by decide, rfl, rfl, rfl, rfl, rfl, rfl, .inr (ents_ab 2 2)⟩
  na_ := by decide
  nb_ := by decide
theorem one4 : OneFile L4 1 ⟨#[98]⟩ ⟨#[98]⟩ zeroMt 1 where
  inv := i4
  two := .inl rfl
  at_ := ⟨_, 2, _, rfl, rfl, by decide, rfl, by decide, rfl, rfl, rfl, rfl, rfl, rfl, .inl (ents_b 2)⟩
  na_ := by decide
  nb_ := by decide
end Go.Proofs.YtcjahipcfcghlaaGreatV

/- satchellaw24's lives: true. -/
namespace Go.Proofs.YtcjahipcfcghlaaGreatV
open Go.RowKit Go.Shelf
set_option linter.unusedVariables false
set_option linter.unusedSimpArgs false
section
variable {w : World} {B f : Nat} {own : Nat → Option Int} {Ph : Phys} {S : FSt}
theorem FSRep.none_ge (h : FSRep w B f own Ph S) {b : Nat} (hb : w.heap.size ≤ b) : own b = none := by
  cases ho : own b with
  | none => rfl
  | some m => have := h.lt ho; omega
theorem src_alloc (h : FSRep w B f own Ph S) (l : List Int) (t : TypeId) (fr : Nat × Nat) (sb : Nat) (hs : sb = w.heap.size) : Src (w.alloc (.cells (byteCells l).toArray t fr)) own (some ⟨sb, 0, none⟩) l := fun _ => by
  subst hs
  refine ⟨_, rfl, by simp, h.none_ge (Nat.le_refl _), fun j z hj => ?_⟩
  have hh := (MapKept.heap_alloc w (.cells (byteCells l).toArray t fr)).1
  rw [Addr.add_lit]
  have hc := cell_of hh (0 + j)
  refine hc.trans ?_
  unfold byteCells
  simp [hj]
/-- What Changes tells of the two. -/
def ChangesAB : Prop := ∀ (W : World) (ob oc n nc : Nat), 2 ≤ oc → 1 ≤ nc → (∀ j u, (marksM ⟨#[97]⟩ zeroMt 2 ⟨#[98]⟩)[j]? = some u → W.cell? ⟨ob, j, none⟩ = some u) → (∀ j u, (marksM ⟨#[98]⟩ zeroMt 1 ⟨#[98]⟩)[j]? = some u → W.cell? ⟨n, j, none⟩ = some u) →
  Calls Tryz.prog 6 #[.slice (some ⟨ob, 0, none⟩) 2 oc, .slice (some ⟨n, 0, none⟩) 1 nc] W fun e w' => ∃ v, e = .returned v ∧ w'.ownsRow W.heap.size 27 2 v 2 [.string ⟨#[97]⟩, .int .i64 2, .string ⟨#[98]⟩, .int .i64 32] ∧ Below W.heap.size W w'
/-- A row's cells, plainly. -/
theorem own_plain {w : World} {base : Nat} {e : TypeId} {size n : Nat} {v : Value} {xs : List Value} (h : w.ownsRow base e size v n xs) (hn : n ≠ 0) : ∃ g cap, v = .slice (some ⟨g, 0, none⟩) n cap ∧ n ≤ cap ∧ base ≤ g ∧ g < w.heap.size ∧ ∀ j u, xs[j]? = some u → w.cell? ⟨g, j, none⟩ = some u := by
  rcases h.2 with ⟨_, e0⟩ | ⟨g, cap, cur, e1, hg, hh, hc, _⟩
  · exact absurd e0 hn
  · have hob : v.ownBlock = some g := by rw [e1]; rfl
    refine ⟨g, cap, e1, hc, hg, (h.lt g hob).2, fun j u hj => ?_⟩
    have := h.cells hob _ _ hj
    rwa [Addr.add_lit, Nat.zero_add] at this
set_option maxHeartbeats 4000000 in
set_option maxRecDepth 100000 in
theorem lives_of (hCh : ChangesAB) (w : World) : Calls Tryz.prog 5 #[] w fun e w' => e = .returned (.bool true) ∧ Below w.heap.size w w' := by
  have HCH := Lib.hid hCh
  clear hCh
  go_enter Tryz.func5, Tryz.ntmps5
  go_wp2_with fail
  refine (New_calls w 9 99 (by decide) (by decide)).mono ?_
  rintro e w1 ⟨rfl, r1, r2⟩
  have H1 := Lib.hid r1
  have F1 := Lib.hid r2
  clear r1 r2
  go_wp2_with fail
  refine (Create_calls (B := w.heap.size) (S := L0) H1.out F1.out.size i0 1 ⟨#[97]⟩ zeroMt).mono ?_
  rintro e w2 ⟨rfl, own2, Ph2, r1, r2⟩
  rw [m0.1, m0.2]
  have H2 := Lib.hid r1
  have F2 := Lib.hid (F1.out.trans r2)
  clear r1 r2 H1 F1
  have hcv := Lib.run_convert_bytes_const (P := Tryz.prog) w2 40 5 #[.int .u8 120] 1 1 Tryz.underlying40 Tryz.underlying5
  go_wp2_with fail
  clear hcv
  refine (Write_calls (B := w.heap.size) (S := L1) (H2.out.of_below (alloc_below _ _)) (Nat.le_trans F2.out.size (alloc_below _ _).size) i1 2 0 _ [120] _ (src_alloc H2.out [120] _ _ _ rfl)).mono ?_
  rintro e w3 ⟨rfl, own3, Ph3, r1, r2⟩
  rw [m1]
  have H3 := Lib.hid r1
  have F3 := Lib.hid ((F2.out.trans (Frame.of_below (alloc_below _ _))).trans r2)
  clear r1 r2 H2 F2
  go_wp2_with fail
  refine (Link_calls (B := w.heap.size) (S := L2) H3.out F3.out.size i2 1 ⟨#[98]⟩ 2).mono ?_
  rintro e w4 ⟨rfl, own4, Ph4, r1, r2⟩
  rw [m2]
  have H4 := Lib.hid r1
  have F4 := Lib.hid (F3.out.trans r2)
  clear r1 r2 H3 F3
  go_wp2_with fail
  refine (Marks_calls (S := L3) H4.out one3).mono ?_
  rintro e w5 ⟨v, rfl, r1, r2⟩
  obtain ⟨ob, oc, rfl, hoc, hob1, hob2, hold⟩ := own_plain r1 (by omega)
  have H5 := Lib.hid (H4.out.of_below r2)
  have F5 := Lib.hid (F4.out.trans (Frame.of_below r2))
  have HOLD5 := Lib.hid hold
  have HOB := Lib.hid (show own4 ob = none ∧ ob < w5.heap.size ∧ 2 ≤ oc from ⟨H4.out.none_ge hob1, hob2, hoc⟩)
  have k19 : w5.cell? ⟨ob, 19, none⟩ = some (.string ⟨#[97]⟩) := hold 19 _ rfl
  have k8 : w5.cell? ⟨ob, 8, none⟩ = some (.int .u64 sumX) := hold 8 _ rfl
  have k18 : w5.cell? ⟨ob, 18, none⟩ = some (.int .u64 sumX) := hold 18 _ rfl
  clear r1 r2 H4 F4 hold hoc hob1 hob2
  generalize sumX = sx at k8 k18
  go_wp2_with fail
  go_quiet (fail)
  go_wp2_with fail
  have hq : Below w5.heap.size w5 (w5.drewN nq) := ⟨rfl, rfl, rfl, Nat.le_refl _, fun _ _ => rfl⟩
  refine (Unlink_calls (B := w.heap.size) (S := L3) (H5.out.of_below hq) (Nat.le_trans F5.out.size hq.size) i3 1 ⟨#[97]⟩).mono ?_
  rintro e w6 ⟨rfl, own6, Ph6, r1, r2⟩
  rw [m3]
  have H6 := Lib.hid r1
  have F6 := Lib.hid ((F5.out.trans (Frame.of_below hq)).trans r2)
  have hb6 := (r2.block ob (Nat.lt_of_lt_of_le HOB.out.2.1 hq.size) HOB.out.1).1.trans (hq.block ob HOB.out.2.1)
  have HOLD6 := Lib.hid (fun j u hj => (World.cell?_of_block (w := w5) (a := ⟨ob, j, none⟩) hb6).trans (HOLD5.out j u hj))
  have HL6 := Lib.hid (show ob < w6.heap.size from Nat.lt_of_lt_of_le (Nat.lt_of_lt_of_le HOB.out.2.1 hq.size) r2.size)
  have HOC := Lib.hid HOB.out.2.2
  clear r1 r2 H5 F5 hq hb6 HOLD5 HOB k8 k18 k19
  clear w5
  go_wp2_with fail
  refine (Marks_calls (S := L4) H6.out one4).mono ?_
  rintro e w7 ⟨v, rfl, r1, r2⟩
  obtain ⟨nb, nc, rfl, hnc, hnb1, hnb2, hnow⟩ := own_plain r1 (by omega)
  have H7 := Lib.hid (H6.out.of_below r2)
  have F7 := Lib.hid (F6.out.trans (Frame.of_below r2))
  have HOLD7 := Lib.hid (fun j u hj => (r2.cell (p := ⟨ob, j, none⟩) HL6.out).trans (HOLD6.out j u hj))
  have HL7 := Lib.hid (Nat.lt_of_lt_of_le HL6.out r2.size)
  have HNOW := Lib.hid (And.intro hnc hnow)
  clear r1 r2 H6 F6 hnc hnb1 hnb2 hnow HOLD6 HL6
  clear w6
  go_wp2_with fail
  refine (HCH.out w7 ob oc nb nc HOC.out HNOW.out.1 HOLD7.out HNOW.out.2).mono ?_
  rintro e w8 ⟨v, rfl, r1, r2⟩
  obtain ⟨dg, dc, rfl, hdc, hdg1, hdg2, hd⟩ := own_plain r1 (by omega)
  have H8 := Lib.hid (H7.out.of_below r2)
  have F8 := Lib.hid (F7.out.trans (Frame.of_below r2))
  have HOLD8 := Lib.hid (fun j u hj => (r2.cell (p := ⟨ob, j, none⟩) HL7.out).trans (HOLD7.out j u hj))
  have HL8 := Lib.hid (Nat.lt_of_lt_of_le HL7.out r2.size)
  have HD8 := Lib.hid (And.intro hdg2 hd)
  clear r1 r2 H7 F7 hdc hdg1 hdg2 hd HOLD7 HL7 HNOW
  clear w7
  go_wp2_with fail
  refine (Newer_of (S := L4) H8.out one4 (na := ⟨#[97]⟩) (ob := ob) (oc := oc) (by decide) (by decide) HOLD8.out (fun W n nc' h1 hB hc => HCH.out W ob oc n nc' HOC.out h1 (fun j u hj => (hB.cell (p := ⟨ob, j, none⟩) HL8.out).trans (HOLD8.out j u hj)) hc)).mono ?_
  rintro e w9 ⟨l, dv, gv, rfl, r1, r2, r3⟩
  obtain ⟨lg, lc, rfl, u1, u2, u3, hl⟩ := own_plain r1 (by omega)
  obtain ⟨gg, gc, rfl, u4, u5, u6, hg⟩ := own_plain r2 (by omega)
  have F9 := Lib.hid (F8.out.trans (Frame.of_below r3))
  have l1 : w9.cell? ⟨lg, 1, none⟩ = some (.int .i64 2) := hl 1 _ rfl
  have g0 : w9.cell? ⟨gg, 0, none⟩ = some (.string ⟨#[97]⟩) := hg 0 _ rfl
  have d0 : w9.cell? ⟨dg, 0, none⟩ = some (.string ⟨#[97]⟩) := (r3.cell (p := ⟨dg, 0, none⟩) HD8.out.1).trans (HD8.out.2 0 _ rfl)
  have d1 : w9.cell? ⟨dg, 1, none⟩ = some (.int .i64 2) := (r3.cell (p := ⟨dg, 1, none⟩) HD8.out.1).trans (HD8.out.2 1 _ rfl)
  have d2 : w9.cell? ⟨dg, 2, none⟩ = some (.string ⟨#[98]⟩) := (r3.cell (p := ⟨dg, 2, none⟩) HD8.out.1).trans (HD8.out.2 2 _ rfl)
  have d3 : w9.cell? ⟨dg, 3, none⟩ = some (.int .i64 32) := (r3.cell (p := ⟨dg, 3, none⟩) HD8.out.1).trans (HD8.out.2 3 _ rfl)
  clear u1 u2 u3 u4 u5 u6 r1 r2 r3 hl hg H8 F8 HOLD8 HL8 HD8 HCH HOC
  clear w8
  go_wp2_with fail
  go_ret
  exact ⟨rfl, ⟨F9.out.os, F9.out.tape, F9.out.output, F9.out.size, fun b hb => (F9.out.block b hb rfl).1⟩⟩
end
end Go.Proofs.YtcjahipcfcghlaaGreatV
