/- vfs, pack, compare: contracts of the functions (texts VBelow, VName, VKeep, VTree, MERGED). -/
import Derived.Test.YtcjahipcfcghlaaGreatVJoin
import Derived.Test.YtcjahipcfcghlaaGreatShelf
import Derived.Deep.RegionHeld3
import Derived.Deep.AppendLies
import Derived.Test.YtcjahipcfcghlaaGreatVXxh
/- walk: below, All: of a directory that holds files alone. -/
namespace Go.Proofs.YtcjahipcfcghlaaGreatV
open Go.RowKit
set_option linter.unusedVariables false
set_option linter.unusedSimpArgs false
def entsOf (m : List (ByteArray × Int)) : List (ByteArray × Int) := (keysOf m).map fun k => (k, (aget k m).getD 0)
theorem entsOf_len (m : List (ByteArray × Int)) : (entsOf m).length = m.length := by unfold entsOf; rw [List.length_map, keysOf_len]
theorem entsOf_cells (m : List (ByteArray × Int)) : (keysOf m).flatMap (entOf m) = (entsOf m).flatMap fun e => [.string e.1, .int .i64 e.2] := by
  unfold entsOf
  rw [List.flatMap_map]
  rfl
theorem flat2_get {α : Type} (f g : α → Value) : ∀ (l : List α) (k : Nat) (e : α), l[k]? = some e → (l.flatMap fun e => [f e, g e])[k * 2]? = some (f e) ∧ (l.flatMap fun e => [f e, g e])[k * 2 + 1]? = some (g e)
  | [], k, e, h => by simp at h
  | a :: l, 0, e, h => by
    simp at h
    subst h
    simp
  | a :: l, k + 1, e, h => by
    have ih := flat2_get f g l k e (by simpa using h)
    have e1 : (k + 1) * 2 = k * 2 + 1 + 1 := by omega
    rw [e1]
    simpa using ih
def foundC (p : Nat × Nat) (e : ByteArray × Int) : List Value := [.slice (some ⟨p.1, 0, none⟩) 1 p.2, .int .i64 e.2, .int .i64 2]
/-- How what was found lies: each name in a row of its own. -/
structure FoundsAt (W : World) (base : Nat) (v : Value) (es : List (ByteArray × Int)) (ps : List (Nat × Nat)) : Prop where
  len : ps.length = es.length
  row : W.ownsRow base 118 3 v es.length ((ps.zip es).flatMap fun q => foundC q.1 q.2)
  part : ∀ (k : Nat) (p : Nat × Nat) (e : ByteArray × Int), ps[k]? = some p → es[k]? = some e → W.cell? ⟨p.1, 0, none⟩ = some (.string e.1) ∧ v.ownBlock ≠ some p.1 ∧ base ≤ p.1
theorem FoundsAt.snoc {W W3 W9 : World} {base pb pc : Nat} {v v9 : Value} {es : List (ByteArray × Int)} {ps : List (Nat × Nat)} {x : ByteArray × Int} {o : Obj} (h : FoundsAt W base v es ps) (hB3 : Below W.heap.size W W3) (hbase : base ≤ W.heap.size) (hpb : W.heap.size ≤ pb ∧ pb < W3.heap.size) (hpc : W3.cell? ⟨pb, 0, none⟩ = some (.string x.1))
    (hg : (W3.alloc o).grownBy W9 v.ownBlock) (ha : v9.ownBlock = v.ownBlock ∨ v9.ownBlock = some (W3.alloc o).heap.size) (ho : W9.ownsRow base 118 3 v9 (es.length + 1) ((ps.zip es).flatMap (fun q => foundC q.1 q.2) ++ foundC (pb, pc) x)) : FoundsAt W9 base v9 (es ++ [x]) (ps ++ [(pb, pc)]) := by
  have hvlt : ∀ k, v.ownBlock = some k → k < W.heap.size := fun k hk => (h.row.lt k hk).2
  have hsz : (W3.alloc o).heap.size = W3.heap.size + 1 := by simp
  have hs3 := hB3.size
  refine ⟨by simp [h.len], ?_, fun k p e hp he => ?_⟩
  · rw [List.zip_append h.len, List.flatMap_append]
    simpa using ho
  · rcases Nat.lt_trichotomy k es.length with hk | hk | hk
    · rw [List.getElem?_append_left (by rw [h.len]; exact hk)] at hp
      rw [List.getElem?_append_left hk] at he
      obtain ⟨h1, h2, h3⟩ := h.part k p e hp he
      have hlt := World.block_lt_of_cell? W _ h1
      have hne : v.ownBlock ≠ some p.1 := h2
      refine ⟨?_, ?_, h3⟩
      · have e1 : W9.heap[p.1]? = W.heap[p.1]? := (hg.block p.1 (by rw [hsz]; have : p.1 < W.heap.size := hlt; omega) (fun e => hne e.symm)).trans ((Below.heap_alloc W3 o p.1 (by have : p.1 < W.heap.size := hlt; omega)).trans (hB3.block p.1 hlt))
        exact (World.cell?_of_block (w := W) (a := ⟨p.1, 0, none⟩) e1).trans h1
      · rcases ha with ha | ha
        · rw [ha]; exact hne
        · rw [ha, hsz]
          intro e
          have := Option.some.inj e
          have : p.1 < W.heap.size := hlt
          omega
    · subst hk
      rw [List.getElem?_append_right (by rw [h.len]; exact Nat.le_refl _), h.len] at hp
      rw [List.getElem?_append_right (Nat.le_refl _)] at he
      simp at hp he
      subst hp
      subst he
      have hne : v.ownBlock ≠ some pb := fun e => by have := hvlt pb e; omega
      refine ⟨?_, ?_, by show base ≤ pb; omega⟩
      · have e1 : W9.heap[pb]? = W3.heap[pb]? := (hg.block pb (by rw [hsz]; omega) (fun e => hne e.symm)).trans (Below.heap_alloc W3 o pb hpb.2)
        exact (World.cell?_of_block (w := W3) (a := ⟨pb, 0, none⟩) e1).trans hpc
      · rcases ha with ha | ha
        · rw [ha]; exact hne
        · rw [ha, hsz]
          intro e
          have := Option.some.inj e
          have : W3.heap.size + 1 = pb + 1 := by omega
          omega
    · rw [List.getElem?_eq_none (by simp; omega)] at he
      cases he
theorem infoStr : (Tryz.prog.info? 9).map (fun i => (i.zero, i.size, i.bytes)) = some (some (.string ⟨#[]⟩), 1, 16) := by kernel_rfl
theorem infoFound : (Tryz.prog.info? 118).map (fun i => (i.zero, i.size, i.bytes)) = some (some (.agg #[.slice none 0 0, .int .i64 0, .int .i64 0]), 3, 40) := by kernel_rfl
section
variable {w : World} {B f : Nat} {own : Nat → Option Int} {Ph : Phys} {S : FSt}
set_option maxHeartbeats 4000000 in
set_option maxRecDepth 100000 in
theorem below_flat (h : FSRep w B f own Ph S) (I : Inv S) {dir : Int} {d : Ino} (hg : aget dir S.inodes = some d) (hk : d.kind = 1) (hn : (akeys d.ents).Nodup) (hl : d.ents.length ≤ 1000000) (hz : ∀ p ∈ d.ents, p.1.size ≤ maxLen)
    (hf : ∀ e ∈ entsOf d.ents, (statS S e.2).1.kind = 2) :
    Calls Tryz.prog 78 #[.pointer (some ⟨f, 0, none⟩), .int .i64 dir, .slice none 0 0, .slice none 0 0] w fun e w' => ∃ v ps, e = .returned v ∧ FoundsAt w' w.heap.size v (entsOf d.ents) ps ∧ Below w.heap.size w w' := by
  obtain ⟨iF, hiF, hzF0, hzF1, hzF2⟩ := info_parts infoFound
  obtain ⟨iS, hiS, hzS0, hzS1, hzS2⟩ := info_parts infoStr
  have HLS := Lib.hid (List_dir h hg hk hn (by omega) hz)
  have HR := Lib.hid h
  have HI := Lib.hid I
  have HF := Lib.hid hf
  have HL := Lib.hid hl
  have HEL := Lib.hid (entsOf_len d.ents)
  have HEC := Lib.hid (entsOf_cells d.ents)
  obtain ⟨ES, hES⟩ : ∃ ES, ES = entsOf d.ents := ⟨_, rfl⟩
  rw [← hES] at HF HEL HEC
  rw [HEC.out] at HLS
  rw [← hES]
  clear h I hg hk hn hl hz hf HEC hES
  go_enter Tryz.func78, Tryz.ntmps78
  go_wp2_with fail
  refine HLS.out.mono ?_
  rintro e w1 ⟨v, rfl, ho, hb1⟩
  have HO1 := Lib.hid ho
  have HB1 := Lib.hid hb1
  clear ho hb1 HLS
  obtain ⟨lA, lc, rfl⟩ : ∃ lA lc, v = .slice lA d.ents.length lc := by
    rcases HO1.out.2 with ⟨rfl, e⟩ | ⟨g, cap, cur, e, _⟩
    · exact ⟨none, 0, by rw [e]⟩
    · exact ⟨_, cap, e⟩
  have HLC := Lib.hid (show ∀ (k : Nat) (e : ByteArray × Int), ES[k]? = some e → ∃ g, lA = some ⟨g, 0, none⟩ ∧ g < w1.heap.size ∧ w1.cell? ⟨g, k * 2, none⟩ = some (.string e.1) ∧ w1.cell? ⟨g, k * 2 + 1, none⟩ = some (.int .i64 e.2) from fun k e hk => by
    rcases HO1.out.2 with ⟨_, e0⟩ | ⟨g, cap, cur, e1, _⟩
    · have : k < ES.length := (List.getElem?_eq_some_iff.1 hk).1
      rw [HEL.out] at this
      omega
    · simp only [Value.slice.injEq] at e1
      obtain ⟨rfl, _, rfl⟩ := e1
      obtain ⟨h1, h2⟩ := flat2_get (fun e : ByteArray × Int => Value.string e.1) (fun e => .int .i64 e.2) ES k e hk
      have c1 := HO1.out.cells (g := g) rfl _ _ h1
      have c2 := HO1.out.cells (g := g) rfl _ _ h2
      rw [Addr.add_lit, Nat.zero_add] at c1 c2
      exact ⟨g, rfl, (HO1.out.lt g rfl).2, c1, c2⟩)
  generalize d.ents.length = n at *
  go_wp2_with fail
  go_loopw [3, 23] (fun v3 v23 wr => ∃ (i : Nat) (ps : List (Nat × Nat)), v23 = .int .i64 (i : Int) ∧ Aside0 (i ≤ n) ∧ Aside0 (FoundsAt wr w1.heap.size v3 (ES.take i) ps) ∧ Aside0 (Below w1.heap.size w1 wr)) (fun v3 v23 wr => n - (intOf v23).toNat)
  case atStart => exact ⟨0, [], rfl, ⟨by omega⟩, ⟨⟨by simp, ⟨by simp, .inl ⟨rfl, by simp⟩⟩, fun k p e hp => by simp at hp⟩⟩, ⟨Below.refl _ _⟩⟩
  case round =>
    obtain ⟨i, ps, rfl, HX, HO, HB5⟩ := hrel
    by_cases hlt : i < n
    · have q0 : decide ((i : Int) < (n : Int)) = true := decide_eq_true (by omega)
      have q1 : decide (i < n) = true := decide_eq_true hlt
      have q2 : ((i : Int) < (n : Int)) = True := eq_true (by omega)
      have q3 : (i < n) = True := eq_true hlt
      obtain ⟨x, hx⟩ : ∃ x, ES[i]? = some x := ⟨_, List.getElem?_eq_getElem (by rw [HEL.out]; exact hlt)⟩
      obtain ⟨g, rfl, hgl, hc0, hc1⟩ := HLC.out i x hx
      have x0 : wr.cell? ⟨g, i * 2, none⟩ = some (.string x.1) := (HB5.out.cell (p := ⟨g, i * 2, none⟩) hgl).trans hc0
      have x1 : wr.cell? ⟨g, i * 2 + 1, none⟩ = some (.int .i64 x.2) := (HB5.out.cell (p := ⟨g, i * 2 + 1, none⟩) hgl).trans hc1
      have HXX := Aside0.mk hx
      have HLT := Aside0.mk hlt
      clear hx hc0 hc1 hlt
      have hWR : Below w.heap.size w wr := HB1.out.trans (HB5.out.mono HB1.out.size)
      have HKD := Lib.hid (show Calls Tryz.prog 102 #[.pointer (some ⟨f, 0, none⟩), .int .i64 x.2] (wr.alloc (.cells #[.string x.1, .int .i64 x.2] 177)) fun e w' => e = .returned (.int .i64 2) ∧ Below (wr.alloc (.cells #[.string x.1, .int .i64 x.2] 177)).heap.size (wr.alloc (.cells #[.string x.1, .int .i64 x.2] 177)) w' by
        have hh := kind_calls (HR.out.of_below (below_alloc2 hWR (.cells #[.string x.1, .int .i64 x.2] 177))) HI.out x.2
        rw [HF.out x (List.mem_of_getElem? HXX.out)] at hh
        exact hh)
      clear hWR
      go_wp2_with fail
      refine HKD.out.mono ?_
      rintro e w2 ⟨rfl, hb2⟩
      have hw2 : w2.heap[wr.heap.size]? = some (.cells #[.string x.1, .int .i64 x.2] 177 (0, 0)) := (hb2.block _ (by simp)).trans (Go.heap_alloc_new _ _)
      have HW2 := Aside0.mk hw2
      have HB2 := Aside0.mk ((alloc_below wr (.cells #[.string x.1, .int .i64 x.2] 177)).trans (hb2.mono (by simp)))
      have y0 := cell_of hw2 0
      have y1 := cell_of hw2 1
      simp only [List.getElem?_toArray, List.getElem?_cons_zero, List.getElem?_cons_succ] at y0 y1
      have y0d : w2.drew.cell? ⟨wr.heap.size, 0, none⟩ = some (.string x.1) := y0
      clear hb2 HKD hw2 x0 x1
      go_wp2_with fail
      go_region_held3 (fun W => W.cell? ⟨wr.heap.size, 0, none⟩ = some (.string x.1))
        (first | exact y0d | exact hy3 | go_keep)
        (first
          | (go_at_call 104; refine (Tryz.slices_Clone_string_nil 0 0 _).mono ?_; rintro e w3 ⟨rfl, rfl⟩)
          | (refine step_append_lies _ (by rfl) _ _ _ (by rfl) w2.heap.size 9 iS _ 1 16 Tryz.underlying49 hiS hzS0 hzS1 hzS2 rfl (by omega) (.slice none 0 0) 0 [] (by rfl) ⟨rfl, .inl ⟨rfl, rfl⟩⟩
              ⟨w2.heap.size, 0, none⟩ 1 1 [.string x.1] (by rfl) (by rfl) (World.news_of_block (cs := #[.string x.1]) (t := 9) (fr := (0, 0)) (heap_alloc_new w2 _)) (by simp [Value.oneCell'])
              (by omega) (by unfold maxLen; omega) (by omega) (by show w2.heap.size ≤ (w2.alloc _).heap.size; simp) (w2.heap.size + 1) (by show (w2.alloc _).heap.size = _; simp) ?_; intro pb pc w3 ho3 hg3 hat3 hlt3; have hw3 : w3.heap[wr.heap.size]? = some (.cells #[.string x.1, .int .i64 x.2] 177 (0, 0)) := (hg3.block _ (by have := (Array.getElem?_eq_some_iff.1 HW2.out).1; show wr.heap.size < (w2.alloc _).heap.size; simp; omega) (by simp [Value.ownBlock])).trans ((Below.heap_alloc w2 _ _ (Array.getElem?_eq_some_iff.1 HW2.out).1).trans HW2.out); have hy3 : w3.cell? ⟨wr.heap.size, 0, none⟩ = some (.string x.1) := cell_of hw3 0))
      all_goals
        have hA := HB2.out.alloc HB2.out.size (.cells #[.string x.1] 9)
        have hB3 : Below wr.heap.size wr w3 := ⟨hg3.os.trans hA.os, hg3.tape.trans hA.tape, hg3.output.trans hA.output, Nat.le_trans hA.size hg3.size, fun k hk => (hg3.block k (Nat.lt_of_lt_of_le hk hA.size) (by simp [Value.ownBlock])).trans (hA.block k hk)⟩
        have hpc : w3.cell? ⟨pb, 0, none⟩ = some (.string x.1) := by
          have := ho3.cells (g := pb) rfl 0 (.string x.1) (by simp)
          rwa [Addr.add_lit] at this
        have HPB := Aside0.mk (ho3.lt pb rfl)
        have HB3 := Aside0.mk hB3
        have HPC := Aside0.mk hpc
        have y3 := cell_of hw3 1
        simp only [List.getElem?_toArray, List.getElem?_cons_zero, List.getElem?_cons_succ] at y3
        have HOW := Aside0.mk (own_move HO.out.row fun k hk => hB3.block k (HO.out.row.lt k hk).2)
        have hwi : IntKind.i64.wrap ((i : Int) + 1) = ((i + 1 : Nat) : Int) := by rw [IntWalk.i64_in _ (by have := HL.out; have := HLT.out; omega)]; omega
        have HTK := Aside0.mk (show (ES.take i).length = i by rw [List.length_take, HEL.out]; have := HLT.out; omega)
        clear y0 y1 y0d hy3 hg3 ho3 hat3 hlt3 hA hB3 hpc hw3
        go_wp2_with (at_builtin; refine wpList_append_own_at _ rfl (.tmp 37) (.tmp 43) 115 rfl w1.heap.size 118 iF _ 3 40 Tryz.underlying115 hiF hzF0 hzF1 hzF2 rfl (by decide) u3 (ES.take i).length ((ps.zip (ES.take i)).flatMap fun q => foundC q.1 q.2) rfl (own_allocG HOW.out _) ⟨w3.heap.size, 0, none⟩ 1 1 [.slice (some ⟨pb, 0, none⟩) 1 pc, .int .i64 x.2, .int .i64 2] rfl rfl (World.news_of_block (cs := #[.slice (some ⟨pb, 0, none⟩) 1 pc, .int .i64 x.2, .int .i64 2]) (t := 118) (fr := (0, 0)) (heap_alloc_new w3 _)) (by simp [Value.oneCell']) (by have := HL.out; have := HLT.out; rw [HTK.out]; unfold maxLen; omega) (by have := HL.out; have := HLT.out; rw [HTK.out]; omega) (by have := HB5.out.size; have := HB3.out.size; simp; omega) ?_; intro v9 w9 ho9 hg9 hn9 ha9; have HO9 := Aside0.mk ho9; have HG9 := Aside0.mk hg9; have HA9 := Aside0.mk ha9; clear ho9 hg9 hn9 ha9)
        refine ⟨⟨i + 1, ps ++ [(pb, pc)], rfl, ⟨HLT.out⟩, ⟨?_⟩, ⟨((HB5.out.trans (HB3.out.mono HB5.out.size)).alloc (Nat.le_trans HB5.out.size HB3.out.size) _).grown HG9.out (by have := HB5.out.size; have := HB3.out.size; simp; omega) (fun k hk => (HO.out.row.lt k hk).1)⟩⟩, by have := HLT.out; simp [intOf]; omega⟩
        have e1 : ES.take (i + 1) = ES.take i ++ [x] := by rw [List.take_add_one, HXX.out]; rfl
        rw [e1]
        exact HO.out.snoc HB3.out HB5.out.size ⟨Nat.le_trans HB2.out.size HPB.out.1, HPB.out.2⟩ HPC.out HG9.out HA9.out HO9.out
    · have q0 : decide ((i : Int) < (n : Int)) = false := decide_eq_false (by omega)
      have q1 : decide (i < n) = false := decide_eq_false hlt
      have HE := Aside0.mk (show i = n by have := HX.out; omega)
      clear hlt
      go_wp2_with fail
      go_ret
      refine ⟨_, ps, rfl, ?_, HB1.out.trans (HB5.out.mono HB1.out.size)⟩
      have h := HO.out
      rw [HE.out, List.take_of_length_le (by rw [HEL.out]; exact Nat.le_refl _)] at h
      exact ⟨h.len, h.row.mono HB1.out.size, fun k p e hp he => ⟨(h.part k p e hp he).1, (h.part k p e hp he).2.1, Nat.le_trans HB1.out.size (h.part k p e hp he).2.2⟩⟩
theorem All_flat (h : FSRep w B f own Ph S) (I : Inv S) {dir : Int} {d : Ino} (hg : aget dir S.inodes = some d) (hk : d.kind = 1) (hn : (akeys d.ents).Nodup) (hl : d.ents.length ≤ 1000000) (hz : ∀ p ∈ d.ents, p.1.size ≤ maxLen)
    (hf : ∀ e ∈ entsOf d.ents, (statS S e.2).1.kind = 2) :
    Calls Tryz.prog 53 #[.pointer (some ⟨f, 0, none⟩), .int .i64 dir] w fun e w' => ∃ v ps, e = .returned v ∧ FoundsAt w' w.heap.size v (entsOf d.ents) ps ∧ Below w.heap.size w w' := by
  have HB := Lib.hid (below_flat h I hg hk hn hl hz hf)
  clear h I hg hk hn hl hz hf
  go_enter Tryz.func53, Tryz.ntmps53
  go_wp2_with fail
  refine HB.out.mono ?_
  rintro e w1 ⟨v, ps, rfl, h1, h2⟩
  have H1 := Lib.hid h1
  have H2 := Lib.hid h2
  clear h1 h2
  go_wp2
  go_ret
  exact ⟨v, ps, rfl, H1.out, H2.out⟩
end
end Go.Proofs.YtcjahipcfcghlaaGreatV

/- path: wrong and Join of a name that a directory's entry can have. -/
namespace Go.Proofs.YtcjahipcfcghlaaGreatV
open Go.RowKit
set_option linter.unusedVariables false
set_option linter.unusedSimpArgs false
theorem indexByte_not : ∀ {l : List UInt8} {c : UInt8}, c ∉ l → Lib.indexByte l c = -1
  | [], _, _ => rfl
  | b :: l, c, h => by
    rw [List.mem_cons, not_or] at h
    unfold Lib.indexByte
    rw [if_neg (by simpa using fun e => h.1 e.symm), indexByte_not h.2]
    rfl
theorem indexAny_mem {chars : List UInt8} : ∀ {l : List UInt8} {b : UInt8}, b ∈ l → b ∈ chars → 0 ≤ Lib.indexAny l chars
  | a :: l, b, h, hc => by
    unfold Lib.indexAny
    split
    · exact Int.le_refl _
    · rename_i ha
      rcases List.mem_cons.1 h with rfl | h
      · exact absurd (by simpa using hc) ha
      · have := indexAny_mem h hc
        split
        · rename_i e
          simp at e
          omega
        · omega
theorem name_parts {s : ByteArray} (h : isNameS s = true) : 1 ≤ s.size ∧ s.size ≤ 255 ∧ s.data.toList ≠ [46] ∧ s.data.toList ≠ [46, 46] ∧ Lib.indexByte s.data.toList 47 = -1 ∧ Lib.indexByte s.data.toList 0 = -1 := by
  unfold isNameS at h
  simp only [Bool.and_eq_true, decide_eq_true_eq, Bool.not_eq_true', decide_eq_false_iff_not] at h
  obtain ⟨⟨⟨⟨h1, h2⟩, h3⟩, h4⟩, h5⟩ := h
  unfold Lib.containsAny at h5
  rw [decide_eq_false_iff_not] at h5
  exact ⟨h1, h2, h3, h4, indexByte_not fun e => h5 (indexAny_mem e (by simp)), indexByte_not fun e => h5 (indexAny_mem e (by simp))⟩
section
variable {w : World}
theorem wrong_name {s : ByteArray} (hs : isNameS s = true) : Calls Tryz.prog 79 #[.string s] w fun e w' => e = .returned (.int .i64 0) ∧ w' = w := by
  obtain ⟨h1, h2, h3, h4, h5, h6⟩ := name_parts hs
  have e0 : s.toList ≠ ([] : List UInt8) := fun e => by
    rw [Lib.toList_data] at e
    have h8 : s.data.toList.length = 0 := by rw [e]; rfl
    rw [Array.length_toList] at h8
    have h9 : s.size = s.data.size := rfl
    omega
  have e1 : s.toList ≠ ([46] : List UInt8) := fun e => h3 (by rw [← Lib.toList_data]; exact e)
  have e2 : s.toList ≠ ([46, 46] : List UInt8) := fun e => h4 (by rw [← Lib.toList_data]; exact e)
  have b0 : (s.toList = ([] : List UInt8)) = False := eq_false e0
  have q0 : (s.toList == ([] : List UInt8)) = false := beq_eq_false_iff_ne.2 e0
  have b1 : (s.toList = ([46] : List UInt8)) = False := eq_false e1
  have q1 : (s.toList == ([46] : List UInt8)) = false := beq_eq_false_iff_ne.2 e1
  have b2 : (s.toList = ([46, 46] : List UInt8)) = False := eq_false e2
  have q2 : (s.toList == ([46, 46] : List UInt8)) = false := beq_eq_false_iff_ne.2 e2
  have HI := Lib.hid (And.intro h5 h6)
  have hz : decide (255 < (s.size : Int)) = false := decide_eq_false (by omega)
  clear e0 e1 e2 h1 h3 h4 h5 h6 hs
  go_enter Tryz.func79, Tryz.ntmps79
  go_wp2_with fail
  refine (Tryz.strings_IndexByte _ 0 w).mono ?_
  rintro e w1 ⟨rfl, rfl⟩
  rw [show (0 : Int).toNat.toUInt8 = 0 from rfl, HI.out.2]
  go_wp2_with fail
  refine (Tryz.strings_Contains_one _ 47 _).mono ?_
  rintro e w1 ⟨rfl, rfl⟩
  rw [HI.out.1]
  go_wp2
  go_ret
  exact ⟨rfl, rfl⟩
theorem Join_name {p c : Nat} {s : ByteArray} (hs : isNameS s = true) (hc : w.cell? ⟨p, 0, none⟩ = some (.string s)) : Calls Tryz.prog 54 #[.slice (some ⟨p, 0, none⟩) 1 c] w fun e w' => e = .returned (.tuple #[.string s, .int .i64 0]) ∧ Below w.heap.size w w' := by
  have HW := Lib.hid (wrong_name (w := w) hs)
  have HJ := Lib.hid (sJoin_one (c := c) hc)
  have h2 := (name_parts hs).2.1
  have hz : decide (4096 < (s.size : Int)) = false := decide_eq_false (by omega)
  clear h2 hs
  go_enter Tryz.func54, Tryz.ntmps54
  go_wp2_with fail
  refine wp_loop_rounds 2 ?_
  rw [rounds_succ]
  go_wp2_with fail
  refine HW.out.mono ?_
  rintro e w1 ⟨rfl, rfl⟩
  go_wp2_with fail
  rw [rounds_succ]
  go_wp2_with fail
  refine HJ.out.mono ?_
  rintro e w2 ⟨rfl, hb⟩
  have HB := Lib.hid hb
  clear hb
  go_wp2
  go_ret2
  exact ⟨rfl, HB.out⟩
end
end Go.Proofs.YtcjahipcfcghlaaGreatV

/- rows and stores kept apart. -/
namespace Go.Proofs.YtcjahipcfcghlaaGreatV
open Go.RowKit
set_option linter.unusedVariables false
set_option linter.unusedSimpArgs false
theorem own_keep {W W' : World} {base : Nat} {e : TypeId} {size n : Nat} {v : Value} {xs : List Value} (h : W.ownsRow base e size v n xs) (hB : Below W.heap.size W W') : W'.ownsRow base e size v n xs := own_move h fun k hk => hB.block k (h.lt k hk).2
theorem own_one (W : World) (e : TypeId) (size base : Nat) (xs z : Array Value) (hx : xs.size = size) (hz : z.size = size) (cap : Nat) (h1 : 1 ≤ cap) (h2 : cap ≤ maxLen) (hb : base ≤ W.heap.size) :
    ((W.alloc (.cells (xs ++ Builtin.zeroCells z (cap - 1)) e)).drew).ownsRow base e size (.slice (some ⟨W.heap.size, 0, none⟩) 1 cap) 1 xs.toList := by
  refine ⟨by simp [hx], .inr ⟨W.heap.size, cap, xs ++ Builtin.zeroCells z (cap - 1), rfl, hb, heap_alloc_new W _, h1, h2, ?_, ?_⟩⟩
  · have : (cap - 1) * size + size = cap * size := by rw [← Nat.succ_mul]; congr 1; omega
    simp only [Array.size_append, size_zeroCells, hx, hz]
    omega
  · simp [← hx]
theorem wpList_store_keep {P : Program} {ops : Array Oper} {rest : List Oper} {op : Oper} {a : Go.Act} {w : World} {Q : Exit → Go.Act → World → Prop} (hgd : op.guard = none) (ty : TypeId) (x y : Operand) (ho : op.op = .store ty x y)
    (b o : Nat) (cells : Array Value) (hx : a.eval x = .pointer (some ⟨b, o, none⟩)) (hy : a.eval y = .agg cells)
    (ht : w.there b o cells.size) (hi : (P.info? ty).map (·.size) = some cells.size) (h1 : cells.all (·.oneCell') = true) (B : Nat) (hB : B ≤ b)
    (h : ∀ W', W'.rangeAt b o cells.toList → Below B w W' → wpList P ops Q rest (a.put op.dst undef) W') : wpList P ops Q (op :: rest) a w :=
  wpList_store_mid hgd ty x y ho b o cells hx hy ht hi h1 (h _ (World.rangeAt_setCells_same w b o cells.toList ht) (below_setCells hB cells.toList o w (Below.refl B w)))
/-- A cell of an older block is stored; the world is handed out shut. -/
theorem wpList_store_in {P : Program} {ops : Array Oper} {rest : List Oper} {op : Oper} {a : Go.Act} {w : World} {Q : Exit → Go.Act → World → Prop} (hgd : op.guard = none) (ty : TypeId) (x y : Operand) (ho : op.op = .store ty x y)
    (b o : Nat) (v : Value) (cs : Array Value) (t : TypeId) (hx : a.eval x = .pointer (some ⟨b, o, none⟩)) (hy : a.eval y = v) (hb : w.heap[b]? = some (.cells cs t (0, 0))) (hlt : o < cs.size)
    (hi : (P.info? ty).map (·.size) = some 1) (h1 : v.oneCell' = true) (B : Nat) (hB : B ≤ b)
    (h : ∀ W', W'.heap[b]? = some (.cells (cs.setIfInBounds o v) t (0, 0)) → Below B w W' → wpList P ops Q rest (a.put op.dst undef) W') : wpList P ops Q (op :: rest) a w := by
  have hrun := run_storeCells_cells (P := P) b o [v] 0 w (fun j hj => by
      have e : j = 0 := by simp at hj; exact hj
      subst e
      rw [cell_of hb]
      simp [hlt]) (fun j hj => frozen_of hb _) (fun u hu => by simp at hu; subst hu; exact h1)
  have hc : v.cells = #[v] := by cases v <;> first | rfl | cases h1
  have hw := h (w.setCell ⟨b, o, none⟩ v) (heap_setCell_same w b o cs t v hb) ((Below.refl B w).setCell (p := ⟨b, o, none⟩) hB v)
  refine wpList_plain hgd fun _ hK => ?_
  unfold Oper.wp execOp
  cases hq : P.info? ty with
  | none => simp [hq] at hi
  | some i =>
    have hs : i.size = 1 := by simpa [hq] using hi
    simp only [Nat.add_zero] at hrun
    have hst : (storeVar ty ⟨b, o, none⟩ v).run P w = .ok () (w.setCell ⟨b, o, none⟩ v) := by
      simp [storeVar, sizeOf, typeInfo, hq, hc, hs, hrun, World.setCells]
    simp only [ho, hx, hy, Instr.storeAt, Instr.sureAddr, Sem.run_bind, Sem.run_pure, Result.andThen_ok, hst]
    exact hK _ _ hw
end Go.Proofs.YtcjahipcfcghlaaGreatV

/- pack: tree of a directory whose entries are the names of one file. -/
namespace Go.Proofs.YtcjahipcfcghlaaGreatV
open Go.RowKit
set_option linter.unusedVariables false
set_option linter.unusedSimpArgs false
theorem flat3_get {α : Type} (f g h : α → Value) : ∀ (l : List α) (k : Nat) (e : α), l[k]? = some e → (l.flatMap fun e => [f e, g e, h e])[k * 3]? = some (f e) ∧ (l.flatMap fun e => [f e, g e, h e])[k * 3 + 1]? = some (g e) ∧ (l.flatMap fun e => [f e, g e, h e])[k * 3 + 2]? = some (h e)
  | [], k, e, h0 => by simp at h0
  | a :: l, 0, e, h0 => by
    simp at h0
    subst h0
    simp
  | a :: l, k + 1, e, h0 => by
    have ih := flat3_get f g h l k e (by simpa using h0)
    have e1 : (k + 1) * 3 = k * 3 + 1 + 1 + 1 := by omega
    rw [e1]
    simpa using ih
/-- What is found, cell by cell. -/
theorem FoundsAt.get {W : World} {base : Nat} {v : Value} {es : List (ByteArray × Int)} {ps : List (Nat × Nat)} (h : FoundsAt W base v es ps) {k : Nat} {e : ByteArray × Int} (he : es[k]? = some e) :
    ∃ g cap p c, v = .slice (some ⟨g, 0, none⟩) es.length cap ∧ g < W.heap.size ∧ W.cell? ⟨g, k * 3, none⟩ = some (.slice (some ⟨p, 0, none⟩) 1 c) ∧ W.cell? ⟨g, k * 3 + 1, none⟩ = some (.int .i64 e.2) ∧ W.cell? ⟨g, k * 3 + 2, none⟩ = some (.int .i64 2) ∧ W.cell? ⟨p, 0, none⟩ = some (.string e.1) := by
  have hk : k < es.length := (List.getElem?_eq_some_iff.1 he).1
  obtain ⟨p, hp⟩ : ∃ p, ps[k]? = some p := ⟨_, List.getElem?_eq_getElem (by rw [h.len]; exact hk)⟩
  rcases h.row.2 with ⟨_, e0⟩ | ⟨g, cap, cur, e1, _⟩
  · omega
  · have hz : (ps.zip es)[k]? = some (p, e) := List.getElem?_zip_eq_some.2 ⟨hp, he⟩
    obtain ⟨h1, h2, h3⟩ := flat3_get (fun q : (Nat × Nat) × (ByteArray × Int) => Value.slice (some ⟨q.1.1, 0, none⟩) 1 q.1.2) (fun q => .int .i64 q.2.2) (fun _ => .int .i64 2) (ps.zip es) k (p, e) hz
    have hob : v.ownBlock = some g := by rw [e1]; rfl
    have c1 := h.row.cells hob _ _ h1
    have c2 := h.row.cells hob _ _ h2
    have c3 := h.row.cells hob _ _ h3
    rw [Addr.add_lit, Nat.zero_add] at c1 c2 c3
    exact ⟨g, cap, p.1, p.2, e1, (h.row.lt g hob).2, c1, c2, c3, (h.part k p e hp he).1⟩
/-- What tree holds on to while it walks. -/
structure TAt (W w0 : World) (f hb pb mb : Nat) (fm : List (Int × ByteArray)) (base : Nat) (fv : Value) (es : List (ByteArray × Int)) (ps : List (Nat × Nat)) : Prop where
  below : Below w0.heap.size w0 W
  how : W.heap[hb]? = some (.cells #[.bool false, .bool false, .bool false] 82 (0, 0))
  pk : W.heap[pb]? = some (.cells #[.pointer (some ⟨f, 0, none⟩), .bool false, .bool false, .bool false] 113 (0, 0))
  map : MapAt keyInt Value.string W mb fm
  fnd : FoundsAt W base fv es ps
  le : w0.heap.size ≤ hb ∧ hb < pb ∧ pb < mb ∧ mb < base ∧ base ≤ W.heap.size
theorem FoundsAt.of_block {W W' : World} {base : Nat} {v : Value} {es : List (ByteArray × Int)} {ps : List (Nat × Nat)} (h : FoundsAt W base v es ps) (hm : ∀ k, base ≤ k → k < W.heap.size → W'.heap[k]? = W.heap[k]?) : FoundsAt W' base v es ps :=
  ⟨h.len, own_move h.row fun k hk => hm k (h.row.lt k hk).1 (h.row.lt k hk).2, fun k p e hp he => by
    obtain ⟨h1, h2, h3⟩ := h.part k p e hp he
    exact ⟨(World.cell?_of_block (w := W) (a := ⟨p.1, 0, none⟩) (hm p.1 h3 (World.block_lt_of_cell? W _ h1))).trans h1, h2, h3⟩⟩
theorem TAt.of_below {W W' w0 : World} {f hb pb mb : Nat} {fm : List (Int × ByteArray)} {base : Nat} {fv : Value} {es : List (ByteArray × Int)} {ps : List (Nat × Nat)} (h : TAt W w0 f hb pb mb fm base fv es ps) (hB : Below W.heap.size W W') : TAt W' w0 f hb pb mb fm base fv es ps := by
  have := h.le
  exact ⟨h.below.trans (hB.mono h.below.size), (hB.block _ (by omega)).trans h.how, (hB.block _ (by omega)).trans h.pk, h.map.of_block (hB.block _ (by omega)), h.fnd.of_block fun k _ hk => hB.block k hk, by have := hB.size; omega⟩
theorem TAt.put {W W' w0 : World} {f hb pb mb : Nat} {fm fm' : List (Int × ByteArray)} {base : Nat} {fv : Value} {es : List (ByteArray × Int)} {ps : List (Nat × Nat)} (h : TAt W w0 f hb pb mb fm base fv es ps) (hM : MapAt keyInt Value.string W' mb fm') (hT : Turned W W' mb) : TAt W' w0 f hb pb mb fm' base fv es ps := by
  have := h.le
  exact ⟨⟨hT.os.trans h.below.os, hT.tape.trans h.below.tape, hT.output.trans h.below.output, by rw [hT.size]; exact h.below.size, fun k hk => (hT.block k (by omega)).trans (h.below.block k hk)⟩, (hT.block _ (by omega)).trans h.how, (hT.block _ (by omega)).trans h.pk, hM, h.fnd.of_block fun k hk _ => hT.block k (by omega), by rw [hT.size]; exact h.le⟩
theorem TAt.alloc {W w0 : World} {f hb pb mb : Nat} {fm : List (Int × ByteArray)} {base : Nat} {fv : Value} {es : List (ByteArray × Int)} {ps : List (Nat × Nat)} (h : TAt W w0 f hb pb mb fm base fv es ps) (o : Obj) : TAt (W.alloc o) w0 f hb pb mb fm base fv es ps := h.of_below (alloc_below W o)
theorem infoPacked : (Tryz.prog.info? 55).map (fun i => (i.zero, i.size, i.bytes)) = some (some (.agg #[.string ⟨#[]⟩, .int .i64 0, .int .u32 0, .int .u32 0, .int .u32 0, .int .i64 0, .int .i32 0, .string ⟨#[]⟩, .string ⟨#[]⟩, .string ⟨#[]⟩, .int .i64 0, .int .u8 0, .slice none 0 0]), 13, 144) := by kernel_rfl
/-- The entries of one file's names: the first holds the file, the second is a link to the first. -/
def packsC (na : ByteArray) (i : Ino) (dv : Value) (n : Nat) (nb : ByteArray) : List Value :=
  (packC na 2 i.mt ⟨#[]⟩ i.data.length dv).toList ++ (if n = 2 then (packC nb 4 i.mt na 0 (.slice none 0 0)).toList else [])
section
variable {w : World} {B f : Nat} {own : Nat → Option Int} {Ph : Phys} {S : FSt}
set_option maxHeartbeats 4000000 in
set_option maxRecDepth 100000 in
theorem tree_flat (h : FSRep w B f own Ph S) (I : Inv S) {dir : Int} {d : Ino} (hg : aget dir S.inodes = some d) (hk : d.kind = 1) (hn : (akeys d.ents).Nodup) (hl : d.ents.length ≤ 1000000) (hz : ∀ p ∈ d.ents, p.1.size ≤ maxLen)
    {nd : Int} {i : Ino} (hi : aget nd S.inodes = some i) (hik : i.kind = 2) (hit : i.target = noName) (hie : i.ents = []) (hid : i.data.length ≤ 4194304)
    {na nb : ByteArray} (he : entsOf d.ents = [(na, nd)] ∨ entsOf d.ents = [(na, nd), (nb, nd)]) (hna : isNameS na = true) (hnb : isNameS nb = true) :
    Calls Tryz.prog 39 #[.pointer (some ⟨f, 0, none⟩), .int .i64 dir, .agg #[.bool false, .bool false, .bool false]] w fun e w' => ∃ v dv, e = .returned (.tuple #[v, .int .i64 0]) ∧ w'.ownsRow w.heap.size 55 13 v d.ents.length (packsC na i dv d.ents.length nb) ∧ w'.ownsRow w.heap.size 5 1 dv i.data.length (byteCells i.data) ∧ Below w.heap.size w w' := by
  obtain ⟨iP, hiP, hzP0, hzP1, hzP2⟩ := info_parts infoPacked
  have hst : (statS S dir).1.kind = 1 := by unfold statS; rw [hg]; exact hk
  have hsn : (statS S nd).1.kind = 2 := by unfold statS; rw [hi]; exact hik
  have hf : ∀ e ∈ entsOf d.ents, (statS S e.2).1.kind = 2 := by rcases he with he | he <;> rw [he] <;> simp [hsn]
  have hm : ∀ e ∈ entsOf d.ents, isNameS e.1 = true := by rcases he with he | he <;> rw [he] <;> simp [hna, hnb]
  have HR := Lib.hid h
  have HI := Lib.hid I
  have HM := Lib.hid hm
  have HNA := Lib.hid (And.intro hna hnb)
  have ha := alloc_below w (.cells #[.bool false, .bool false, .bool false] 82)
  have HFD := Lib.hid (Find_top (h.of_below ha) I hst)
  have HALL := Lib.hid (fun W (hW : FSRep W B f own Ph S) => All_flat hW I hg hk hn hl hz hf)
  have hen := fun W (hW : FSRep W B f own Ph S) name => entry_file hW I name nd i hi hik hit hie
  unfold packC at hen
  have HEN := Lib.hid hen
  have HA := Lib.hid ha
  have HEL := Lib.hid (entsOf_len d.ents)
  have HL := Lib.hid hl
  have HES := Lib.hid he
  have HD := Lib.hid hid
  clear hen h I hg hk hn hl hz hf hm ha hst hi hik hit hie hid he hna hnb hsn
  generalize entsOf d.ents = es at *
  generalize d.ents.length = n at *
  go_enter Tryz.func39, Tryz.ntmps39
  go_wp2_with fail
  refine HFD.out.mono ?_
  rintro e w1 ⟨rfl, hb1⟩
  have hq1 : w1.heap[w.heap.size]? = some (.cells #[.bool false, .bool false, .bool false] 82 (0, 0)) := (hb1.block _ (by simp)).trans (Go.heap_alloc_new _ _)
  have HQ1 := Lib.hid hq1
  have HB1 := Lib.hid (HA.out.trans (hb1.mono HA.out.size))
  have HS1 := Lib.hid (show w.heap.size < w1.heap.size from (Array.getElem?_eq_some_iff.1 hq1).1)
  have q0 := cell_of hq1 0
  have q1 := cell_of hq1 1
  have q2 := cell_of hq1 2
  simp only [List.getElem?_toArray, List.getElem?_cons_zero, List.getElem?_cons_succ] at q0 q1 q2
  have hmm := @run_makeMap Tryz.prog
  clear hb1 hq1 HFD
  go_wp2_with fail
  have hw3 := below_two w1 (.cells #[.pointer (some ⟨f, 0, none⟩), .bool false, .bool false, .bool false] 113) (.map #[] 0)
  have hs3 : ((w1.alloc (.cells #[.pointer (some ⟨f, 0, none⟩), .bool false, .bool false, .bool false] 113)).alloc (.map #[] 0)).heap.size = w1.heap.size + 2 := by simp
  have hp3 : ((w1.alloc (.cells #[.pointer (some ⟨f, 0, none⟩), .bool false, .bool false, .bool false] 113)).alloc (.map #[] 0)).heap[w1.heap.size]? = some (.cells #[.pointer (some ⟨f, 0, none⟩), .bool false, .bool false, .bool false] 113 (0, 0)) := (Below.heap_alloc _ _ _ (by simp)).trans (Go.heap_alloc_new _ _)
  have hm3 : MapAt keyInt Value.string ((w1.alloc (.cells #[.pointer (some ⟨f, 0, none⟩), .bool false, .bool false, .bool false] 113)).alloc (.map #[] 0)) (w1.heap.size + 1) [] := by
    have := MapAt.made (K := keyInt) (venc := Value.string) (w1.alloc (.cells #[.pointer (some ⟨f, 0, none⟩), .bool false, .bool false, .bool false] 113))
    simpa using this
  generalize (w1.alloc (.cells #[.pointer (some ⟨f, 0, none⟩), .bool false, .bool false, .bool false] 113)).alloc (.map #[] 0) = w3 at *
  refine (HALL.out w3 ((HR.out.of_below HB1.out).of_below hw3)).mono ?_
  rintro e w4 ⟨v, ps, rfl, hF, hb4⟩
  have HT := Lib.hid (show TAt w4 w f w.heap.size w1.heap.size (w1.heap.size + 1) [] w3.heap.size v es ps from
    have h1 := HS1.out
    ⟨HB1.out.trans ((hw3.trans (hb4.mono hw3.size)).mono HB1.out.size), (hb4.block _ (by omega)).trans ((hw3.block _ h1).trans HQ1.out), (hb4.block _ (by omega)).trans hp3, hm3.of_block (hb4.block _ (by omega)), hF, by have := hb4.size; omega⟩)
  obtain ⟨fA, fc, rfl⟩ : ∃ fA fc, v = .slice fA n fc := by
    rcases hF.row.2 with ⟨rfl, e⟩ | ⟨g, cap, cur, e, _⟩
    · exact ⟨none, 0, by rw [← HEL.out, e]⟩
    · exact ⟨_, cap, by rw [← HEL.out]; exact e⟩
  generalize w3.heap.size = b3 at HT
  generalize w1.heap.size = b1 at *
  clear hw3 hs3 hp3 hm3 hF hb4 HQ1 HB1 HS1 q0 q1 q2 hmm HALL
  clear w3 w1
  go_wp2_with fail
  go_loopw [46] (fun v46 wr => ∃ (k : Nat), v46 = .int .i64 (k : Int) ∧ Aside0 (k ≤ n) ∧ Aside0 (Below w4.heap.size w4 wr)) (fun v46 wr => n - (intOf v46).toNat)
  case atStart => exact ⟨0, rfl, ⟨by omega⟩, ⟨Below.refl _ _⟩⟩
  case round =>
    obtain ⟨k, rfl, HX, HB5⟩ := hrel
    by_cases hlt : k < n
    · have q0 : decide ((k : Int) < (n : Int)) = true := decide_eq_true (by omega)
      have q1 : decide (k < n) = true := decide_eq_true hlt
      have q2 : ((k : Int) < (n : Int)) = True := eq_true (by omega)
      have q3 : (k < n) = True := eq_true hlt
      obtain ⟨x, hx⟩ : ∃ x, es[k]? = some x := ⟨_, List.getElem?_eq_getElem (by rw [HEL.out]; exact hlt)⟩
      obtain ⟨g, cap, p, pc, hv, hgl, hc0, hc1, hc2, hpc⟩ := (HT.out.of_below HB5.out).fnd.get hx
      simp only [Value.slice.injEq] at hv
      obtain ⟨rfl, hv1, hv2⟩ := hv
      have HXX := Aside0.mk hx
      have HLT := Aside0.mk hlt
      clear hx hlt hv1 hv2
      have HJ := Aside0.mk (fun o => Join_name (c := pc) (w := wr.alloc o) (HM.out x (List.mem_of_getElem? HXX.out)) ((alloc_below wr o).cell (p := ⟨p, 0, none⟩) (World.block_lt_of_cell? wr _ hpc) |>.trans hpc))
      go_wp2_with fail
      refine (HJ.out _).mono ?_
      rintro e w6 ⟨rfl, hb6⟩
      have HB6 := Aside0.mk (HB5.out.trans ((below_alloc2 (Below.refl wr.heap.size wr) _ |>.trans (hb6.mono (by simp))).mono HB5.out.size))
      have hwi : IntKind.i64.wrap ((k : Int) + 1) = ((k + 1 : Nat) : Int) := by rw [IntWalk.i64_in _ (by have := HL.out; have := HLT.out; omega)]; omega
      clear hb6
      go_wp2_with fail
      exact ⟨⟨k + 1, rfl, ⟨HLT.out⟩, HB6⟩, by have := HLT.out; simp [intOf]; omega⟩
    · have q0 : decide ((k : Int) < (n : Int)) = false := decide_eq_false (by omega)
      have q1 : decide (k < n) = false := decide_eq_false hlt
      have HE := Aside0.mk (show k = n by have := HX.out; omega)
      clear hlt
      go_wp2_with fail
      have HT1 := Lib.hid (HT.out.of_below HB5.out)
      clear HT HB5 HE q0 q1 HX
      generalize wr = W at HT1 ⊢
      obtain ⟨n1, hn1⟩ : ∃ n1, n = n1 + 1 := ⟨n - 1, by rcases HES.out with e | e <;> rw [e] at HEL <;> have := HEL.out <;> simp at this <;> omega⟩
      subst hn1
      have hx : es[0]? = some (na, nd) := by rcases HES.out with e | e <;> rw [e] <;> rfl
      obtain ⟨g, cap, p, pc, hv, hgl, hc0, hc1, hc2, hpc⟩ := HT1.out.fnd.get hx
      simp only [Value.slice.injEq] at hv
      obtain ⟨rfl, hv1, hv2⟩ := hv
      have q0 : ((0 : Int) < ((n1 + 1 : Nat) : Int)) = True := eq_true (by omega)
      have q1 : decide ((0 : Int) < ((n1 + 1 : Nat) : Int)) = true := decide_eq_true (by omega)
      have HJ := Aside0.mk (fun o => Join_name (c := pc) (w := W.alloc o) HNA.out.1 ((alloc_below W o).cell (p := ⟨p, 0, none⟩) (World.block_lt_of_cell? W _ hpc) |>.trans hpc))
      clear hx hv1 hv2
      go_wp2_with fail
      refine wp_loop_rounds 3 ?_
      rw [rounds_succ]
      go_wp2_with fail
      refine (HJ.out _).mono ?_
      rintro e w6 ⟨rfl, hb6⟩
      have hy : w6.heap[W.heap.size]? = some (.cells #[.slice (some ⟨p, 0, none⟩) 1 pc, .int .i64 nd, .int .i64 2] 118 (0, 0)) := (hb6.block _ (by simp)).trans (Go.heap_alloc_new _ _)
      have HT6 := Lib.hid ((HT1.out.alloc (.cells #[.slice (some ⟨p, 0, none⟩) 1 pc, .int .i64 nd, .int .i64 2] 118)).of_below hb6)
      have HY := Lib.hid hy
      have y1 := cell_of hy 1
      have z0 := cell_of HT6.out.pk 0
      have z1 := cell_of HT6.out.pk 1
      have z2 := cell_of HT6.out.pk 2
      have z3 := cell_of HT6.out.pk 3
      simp only [List.getElem?_toArray, List.getElem?_cons_zero, List.getElem?_cons_succ] at y1 z0 z1 z2 z3
      clear hb6 hy HT1 HJ hgl hc0 hc1 hc2 hpc
      go_wp2_with fail
      refine (HEN.out w6 (HR.out.of_below HT6.out.below) na).mono ?_
      rintro e w7 ⟨dv, rfl, ho, hb7⟩
      have hy7 : ∀ o, (w7.alloc o).heap[W.heap.size]? = some (.cells #[.slice (some ⟨p, 0, none⟩) 1 pc, .int .i64 nd, .int .i64 2] 118 (0, 0)) := fun o => ((alloc_below w7 o).block _ (Nat.lt_of_lt_of_le (Array.getElem?_eq_some_iff.1 HY.out).1 hb7.size)).trans ((hb7.block _ (Array.getElem?_eq_some_iff.1 HY.out).1).trans HY.out)
      have HT7 := Lib.hid (HT6.out.of_below hb7)
      have HT7a := Lib.hid (fun o => HT7.out.alloc o)
      have HBW := Lib.hid (show b3 ≤ w6.heap.size from HT6.out.le.2.2.2.2)
      have HO7 := Lib.hid (ho.mono HBW.out)
      have y1 := fun o => cell_of (hy7 o) 1
      have y2 := fun o => cell_of (hy7 o) 2
      have z2 := fun o => cell_of (HT7a.out o).how 2
      simp only [List.getElem?_toArray, List.getElem?_cons_zero, List.getElem?_cons_succ] at y1 y2 z2
      obtain ⟨vA, vc, rfl⟩ : ∃ vA vc, dv = .slice vA i.data.length vc := by
        rcases ho.2 with ⟨rfl, e⟩ | ⟨g, cap, cur, e, _⟩
        · exact ⟨none, 0, by rw [e]⟩
        · exact ⟨_, cap, e⟩
      clear z0 z1 z3 ho hb7 HT6 HY HBW
      obtain ⟨W8, hW8⟩ : ∃ W8, W8 = w7.alloc (.cells #[.string na, .int .i64 2, .int .u32 i.mt.mode, .int .u32 i.mt.uid, .int .u32 i.mt.gid, .int .i64 i.mt.time, .int .i32 i.mt.nano, .string ⟨#[]⟩, .string ⟨#[]⟩, .string ⟨#[]⟩, .int .i64 (i.data.length : Int), .int .u8 0, .slice vA i.data.length vc] 55) := ⟨_, rfl⟩
      have HW8 := Lib.hid hW8
      clear hW8
      go_wp2_with fail
      rw [← HW8.out]
      have HT8 := Lib.hid (show TAt W8 w f w.heap.size b1 (b1 + 1) [] b3 (.slice (some ⟨g, 0, none⟩) (n1 + 1) fc) es ps from HW8.out ▸ HT7.out.alloc _)
      have hy8 := hy7 (.cells #[.string na, .int .i64 2, .int .u32 i.mt.mode, .int .u32 i.mt.uid, .int .u32 i.mt.gid, .int .i64 i.mt.time, .int .i32 i.mt.nano, .string ⟨#[]⟩, .string ⟨#[]⟩, .string ⟨#[]⟩, .int .i64 (i.data.length : Int), .int .u8 0, .slice vA i.data.length vc] 55)
      rw [← HW8.out] at hy8
      have hp8 : W8.heap[w7.heap.size]? = some (.cells #[.string na, .int .i64 2, .int .u32 i.mt.mode, .int .u32 i.mt.uid, .int .u32 i.mt.gid, .int .i64 i.mt.time, .int .i32 i.mt.nano, .string ⟨#[]⟩, .string ⟨#[]⟩, .string ⟨#[]⟩, .int .i64 (i.data.length : Int), .int .u8 0, .slice vA i.data.length vc] 55 (0, 0)) := HW8.out ▸ Go.heap_alloc_new _ _
      have ho8 : W8.ownsRow b3 5 1 (.slice vA i.data.length vc) i.data.length (byteCells i.data) := own_keep HO7.out (HW8.out ▸ alloc_below w7 _)
      have hb7 : w.heap.size ≤ w7.heap.size := HT7.out.below.size
      obtain ⟨bx, hbx⟩ : ∃ bx, bx = w7.heap.size := ⟨_, rfl⟩
      obtain ⟨by_, hby⟩ : ∃ by_, by_ = W.heap.size := ⟨_, rfl⟩
      rw [← hbx] at hp8 hb7 ⊢
      rw [← hby] at hy8 ⊢
      have hle := HT7.out.le
      rw [← hbx] at hle
      clear hbx HW8 HT7 HT7a HO7 y1 y2 z2 hy7 hby
      clear w7
      have hlook : (Instr.lookup 114 (.map (some (b1 + 1))) (.int .i64 nd) true).run Tryz.prog W8 = .ok (.tuple #[.string ⟨#[]⟩, .bool false]) W8 := HT8.out.map.look (P := Tryz.prog) (t := 114) (kt := 3) (et := 9) Tryz.underlying114 Tryz.underlying3 (z := .string ⟨#[]⟩) (by kernel_rfl) nd true
      have y1 := cell_of hy8 1
      simp only [List.getElem?_toArray, List.getElem?_cons_zero, List.getElem?_cons_succ] at y1
      obtain ⟨W9, hput, hM9, hT9⟩ := HT8.out.map.put (P := Tryz.prog) (t := 114) (kt := 3) (et := 9) Tryz.underlying114 Tryz.underlying3 nd na
      have hput' : (Instr.mapUpdate 114 (.map (some (b1 + 1))) (.int .i64 nd) (.string na)).run Tryz.prog W8 = .ok () W9 := hput
      have HT9 := Lib.hid (HT8.out.put hM9 hT9)
      have hp9 := (hT9.block bx (by omega)).trans hp8
      have HO9 := Lib.hid (show W9.ownsRow b3 5 1 (.slice vA i.data.length vc) i.data.length (byteCells i.data) from own_move ho8 fun k hk => hT9.block k (by have := (ho8.lt k hk).1; omega))
      have HP9 := Lib.hid hp9
      have HLE := Lib.hid hle
      have p10 := cell_of hp9 10
      simp only [List.getElem?_toArray, List.getElem?_cons_zero, List.getElem?_cons_succ] at p10
      obtain ⟨lf, hlf⟩ : ∃ lf : Int, lf = 4194304 - (i.data.length : Int) := ⟨_, rfl⟩
      have hwl : IntKind.i64.wrap (4194304 - (i.data.length : Int)) = lf := by rw [IntWalk.i64_in _ (by have := HD.out; omega)]; exact hlf.symm
      have q5 : decide (lf < 0) = false := decide_eq_false (by have := HD.out; omega)
      have hlf2 : 0 ≤ lf ∧ lf ≤ 4194304 := by have := HD.out; omega
      have HRG := Lib.hid (range_of_heap HP9.out)
      have HI55 := Lib.hid info55
      clear hp8 hy8 ho8 hlf hp9 hput hle hT9 hM9 HT8
      go_wp2_with (refine wpList_load_mid rfl 55 (.tmp 24) rfl bx 0 rfl _ _ HRG.out Tryz.underlying55 rfl HI55.out ?_)
      have hc1 : 1 ≤ (Question.appendCap 1 0 55).cut (W9.tape W9.drawn (Question.appendCap 1 0 55)) := grownCap_ge W9 1 0 55
      have hc2 : (Question.appendCap 1 0 55).cut (W9.tape W9.drawn (Question.appendCap 1 0 55)) ≤ maxLen := grownCap_le_maxLen W9 1 0 55 (by decide)
      generalize (Question.appendCap 1 0 55).cut (W9.tape W9.drawn (Question.appendCap 1 0 55)) = cap9 at hc1 hc2 ⊢
      have HO10 := Lib.hid (own_one (W9.alloc (.cells #[.string na, .int .i64 2, .int .u32 i.mt.mode, .int .u32 i.mt.uid, .int .u32 i.mt.gid, .int .i64 i.mt.time, .int .i32 i.mt.nano, .string ⟨#[]⟩, .string ⟨#[]⟩, .string ⟨#[]⟩, .int .i64 (i.data.length : Int), .int .u8 0, .slice vA i.data.length vc] 55)) 55 13 b3 #[.string na, .int .i64 2, .int .u32 i.mt.mode, .int .u32 i.mt.uid, .int .u32 i.mt.gid, .int .i64 i.mt.time, .int .i32 i.mt.nano, .string ⟨#[]⟩, .string ⟨#[]⟩, .string ⟨#[]⟩, .int .i64 (i.data.length : Int), .int .u8 0, .slice vA i.data.length vc] #[.string ⟨#[]⟩, .int .i64 0, .int .u32 0, .int .u32 0, .int .u32 0, .int .i64 0, .int .i32 0, .string ⟨#[]⟩, .string ⟨#[]⟩, .string ⟨#[]⟩, .int .i64 0, .int .u8 0, .slice none 0 0] rfl rfl cap9 hc1 hc2 (by have := HT9.out.le; simp; omega))
      have hB10 := (below_two W9 (.cells #[.string na, .int .i64 2, .int .u32 i.mt.mode, .int .u32 i.mt.uid, .int .u32 i.mt.gid, .int .i64 i.mt.time, .int .i32 i.mt.nano, .string ⟨#[]⟩, .string ⟨#[]⟩, .string ⟨#[]⟩, .int .i64 (i.data.length : Int), .int .u8 0, .slice vA i.data.length vc] 55) (.cells (#[.string na, .int .i64 2, .int .u32 i.mt.mode, .int .u32 i.mt.uid, .int .u32 i.mt.gid, .int .i64 i.mt.time, .int .i32 i.mt.nano, .string ⟨#[]⟩, .string ⟨#[]⟩, .string ⟨#[]⟩, .int .i64 (i.data.length : Int), .int .u8 0, .slice vA i.data.length vc] ++ Builtin.zeroCells #[.string ⟨#[]⟩, .int .i64 0, .int .u32 0, .int .u32 0, .int .u32 0, .int .i64 0, .int .i32 0, .string ⟨#[]⟩, .string ⟨#[]⟩, .string ⟨#[]⟩, .int .i64 0, .int .u8 0, .slice none 0 0] (cap9 - 1)) 55)).drew
      generalize (((W9.alloc (.cells #[.string na, .int .i64 2, .int .u32 i.mt.mode, .int .u32 i.mt.uid, .int .u32 i.mt.gid, .int .i64 i.mt.time, .int .i32 i.mt.nano, .string ⟨#[]⟩, .string ⟨#[]⟩, .string ⟨#[]⟩, .int .i64 (i.data.length : Int), .int .u8 0, .slice vA i.data.length vc] 55)).alloc (.cells (#[.string na, .int .i64 2, .int .u32 i.mt.mode, .int .u32 i.mt.uid, .int .u32 i.mt.gid, .int .i64 i.mt.time, .int .i32 i.mt.nano, .string ⟨#[]⟩, .string ⟨#[]⟩, .string ⟨#[]⟩, .int .i64 (i.data.length : Int), .int .u8 0, .slice vA i.data.length vc] ++ Builtin.zeroCells #[.string ⟨#[]⟩, .int .i64 0, .int .u32 0, .int .u32 0, .int .u32 0, .int .i64 0, .int .i32 0, .string ⟨#[]⟩, .string ⟨#[]⟩, .string ⟨#[]⟩, .int .i64 0, .int .u8 0, .slice none 0 0] (cap9 - 1)) 55)).drew) = W10 at HO10 hB10 ⊢
      have hs9 : (W9.alloc (.cells #[.string na, .int .i64 2, .int .u32 i.mt.mode, .int .u32 i.mt.uid, .int .u32 i.mt.gid, .int .i64 i.mt.time, .int .i32 i.mt.nano, .string ⟨#[]⟩, .string ⟨#[]⟩, .string ⟨#[]⟩, .int .i64 (i.data.length : Int), .int .u8 0, .slice vA i.data.length vc] 55)).heap.size = W9.heap.size + 1 := by simp
      rw [hs9] at HO10
      have HT10 := Lib.hid (HT9.out.of_below hB10)
      have HD10 := Lib.hid (own_keep HO9.out hB10)
      have HNB := Lib.hid (show ∀ k, (Value.slice vA i.data.length vc).ownBlock = some k → k < W9.heap.size + 1 from fun k hk => Nat.lt_succ_of_lt (HO9.out.lt k hk).2)
      generalize W9.heap.size + 1 = g10 at HO10 HNB ⊢
      clear hs9 hB10 HT9 HO9 HP9 HRG hc1 hc2 p10 hput' hlook y1 HLE q0 q1 hwl
      have HLF := Lib.hid hlf2
      clear hlf2
      generalize W9.heap.size = s9
      clear W9 W8
      rw [rounds_succ]
      rcases Nat.eq_zero_or_pos n1 with hn | hn
      · subst hn
        go_wp2_with fail
        have hle := HT10.out.le
        go_ret2
        exact ⟨_, rfl, _, HO10.out.mono (by omega), HD10.out.mono (by omega), HT10.out.below⟩
      · obtain ⟨n2, hn2⟩ : ∃ n2, n1 = n2 + 1 := ⟨n1 - 1, by omega⟩
        have he : es = [(na, nd), (nb, nd)] := by rcases HES.out with e | e <;> rw [e] at HEL <;> have := HEL.out <;> simp at this <;> first | omega | exact e
        have hn3 : n1 = 1 := by have := HEL.out; rw [he] at this; simp at this; omega
        subst hn3
        clear hn2 n2 hn
        have hx : es[1]? = some (nb, nd) := by rw [he]; rfl
        obtain ⟨g, cap, p, pc, hv, hgl, hc0, hc1, hc2, hpc⟩ := HT10.out.fnd.get hx
        simp only [Value.slice.injEq, Option.some.injEq, Addr.mk.injEq, and_true] at hv
        obtain ⟨rfl, hv1, rfl⟩ := hv
        have hc0 : W10.cell? ⟨g, 3, none⟩ = _ := hc0
        have hc1 : W10.cell? ⟨g, 4, none⟩ = _ := hc1
        have hc2 : W10.cell? ⟨g, 5, none⟩ = _ := hc2
        have HJ := Aside0.mk (fun o => Join_name (c := pc) (w := W10.alloc o) HNA.out.2 ((alloc_below W10 o).cell (p := ⟨p, 0, none⟩) (World.block_lt_of_cell? W10 _ hpc) |>.trans hpc))
        clear hx he hv1
        go_wp2_with fail
        refine (HJ.out _).mono ?_
        rintro e w6 ⟨rfl, hb6⟩
        have hy : w6.heap[W10.heap.size]? = some (.cells #[.slice (some ⟨p, 0, none⟩) 1 pc, .int .i64 nd, .int .i64 2] 118 (0, 0)) := (hb6.block _ (by simp)).trans (Go.heap_alloc_new _ _)
        have hb6' := (alloc_below W10 (.cells #[.slice (some ⟨p, 0, none⟩) 1 pc, .int .i64 nd, .int .i64 2] 118)).trans (hb6.mono (by simp))
        have HT6 := Lib.hid (HT10.out.of_below hb6')
        have HO6 := Lib.hid (own_keep HO10.out hb6')
        have HD6 := Lib.hid (own_keep HD10.out hb6')
        have HY := Lib.hid hy
        have y1 := cell_of hy 1
        have z0 := cell_of HT6.out.pk 0
        have z1 := cell_of HT6.out.pk 1
        have z2 := cell_of HT6.out.pk 2
        have z3 := cell_of HT6.out.pk 3
        simp only [List.getElem?_toArray, List.getElem?_cons_zero, List.getElem?_cons_succ] at y1 z0 z1 z2 z3
        clear hb6 hy HT10 HJ hgl hc0 hc1 hc2 hpc hb6' HO10 HD10
        go_wp2_with fail
        refine (HEN.out w6 (HR.out.of_below HT6.out.below) nb).mono ?_
        rintro e w7 ⟨dv, rfl, ho, hb7⟩
        obtain ⟨vB, vd, rfl⟩ : ∃ vB vd, dv = .slice vB i.data.length vd := by
          rcases ho.2 with ⟨rfl, e⟩ | ⟨g, cap, cur, e, _⟩
          · exact ⟨none, 0, by rw [e]⟩
          · exact ⟨_, cap, e⟩
        have hy7 : ∀ o, (w7.alloc o).heap[W10.heap.size]? = some (.cells #[.slice (some ⟨p, 0, none⟩) 1 pc, .int .i64 nd, .int .i64 2] 118 (0, 0)) := fun o => ((alloc_below w7 o).block _ (Nat.lt_of_lt_of_le (Array.getElem?_eq_some_iff.1 HY.out).1 hb7.size)).trans ((hb7.block _ (Array.getElem?_eq_some_iff.1 HY.out).1).trans HY.out)
        have HT7 := Lib.hid (HT6.out.of_below hb7)
        have HO7 := Lib.hid (own_keep HO6.out hb7)
        have HD7 := Lib.hid (own_keep HD6.out hb7)
        have y1 := fun o => cell_of (hy7 o) 1
        have y2 := fun o => cell_of (hy7 o) 2
        have z2 := fun o => cell_of (HT7.out.alloc o).how 2
        simp only [List.getElem?_toArray, List.getElem?_cons_zero, List.getElem?_cons_succ] at y1 y2 z2
        have hlook : (Instr.lookup 114 (.map (some (b1 + 1))) (.int .i64 nd) true).run Tryz.prog (w7.alloc (.cells #[.string nb, .int .i64 2, .int .u32 i.mt.mode, .int .u32 i.mt.uid, .int .u32 i.mt.gid, .int .i64 i.mt.time, .int .i32 i.mt.nano, .string ⟨#[]⟩, .string ⟨#[]⟩, .string ⟨#[]⟩, .int .i64 (i.data.length : Int), .int .u8 0, .slice vB i.data.length vd] 55)) = .ok (.tuple #[.string na, .bool true]) (w7.alloc (.cells #[.string nb, .int .i64 2, .int .u32 i.mt.mode, .int .u32 i.mt.uid, .int .u32 i.mt.gid, .int .i64 i.mt.time, .int .i32 i.mt.nano, .string ⟨#[]⟩, .string ⟨#[]⟩, .string ⟨#[]⟩, .int .i64 (i.data.length : Int), .int .u8 0, .slice vB i.data.length vd] 55)) := by
          have := (HT7.out.alloc (.cells #[.string nb, .int .i64 2, .int .u32 i.mt.mode, .int .u32 i.mt.uid, .int .u32 i.mt.gid, .int .i64 i.mt.time, .int .i32 i.mt.nano, .string ⟨#[]⟩, .string ⟨#[]⟩, .string ⟨#[]⟩, .int .i64 (i.data.length : Int), .int .u8 0, .slice vB i.data.length vd] 55)).map.look (P := Tryz.prog) (t := 114) (kt := 3) (et := 9) Tryz.underlying114 Tryz.underlying3 (z := .string ⟨#[]⟩) (by kernel_rfl) nd true
          simpa [aget, keyInt, aset] using this
        clear z0 z1 z3 ho hb7 HT6 HY HO6 HD6
        go_wp2_with fail
        have hlc := link_calls (w := w7.alloc (.cells #[.string nb, .int .i64 2, .int .u32 i.mt.mode, .int .u32 i.mt.uid, .int .u32 i.mt.gid, .int .i64 i.mt.time, .int .i32 i.mt.nano, .string ⟨#[]⟩, .string ⟨#[]⟩, .string ⟨#[]⟩, .int .i64 (i.data.length : Int), .int .u8 0, .slice vB i.data.length vd] 55)) nb ⟨#[]⟩ na 2 i.mt i.data.length (.slice vB i.data.length vd) rfl
        unfold packC at hlc
        refine hlc.mono ?_
        rintro e w8 ⟨rfl, hb8⟩
        have hbx : w8.heap[w7.heap.size]? = some (.cells #[.string nb, .int .i64 2, .int .u32 i.mt.mode, .int .u32 i.mt.uid, .int .u32 i.mt.gid, .int .i64 i.mt.time, .int .i32 i.mt.nano, .string ⟨#[]⟩, .string ⟨#[]⟩, .string ⟨#[]⟩, .int .i64 (i.data.length : Int), .int .u8 0, .slice vB i.data.length vd] 55 (0, 0)) := (hb8.block _ (by simp)).trans (Go.heap_alloc_new _ _)
        have HBX := Lib.hid hbx
        have HB8 := Lib.hid ((alloc_below w7 (.cells #[.string nb, .int .i64 2, .int .u32 i.mt.mode, .int .u32 i.mt.uid, .int .u32 i.mt.gid, .int .i64 i.mt.time, .int .i32 i.mt.nano, .string ⟨#[]⟩, .string ⟨#[]⟩, .string ⟨#[]⟩, .int .i64 (i.data.length : Int), .int .u8 0, .slice vB i.data.length vd] 55)).trans (hb8.mono (by simp)))
        have HTH := Lib.hid (there_of_heap hbx)
        have HONE := Lib.hid (show (#[.string nb, .int .i64 4, .int .u32 i.mt.mode, .int .u32 i.mt.uid, .int .u32 i.mt.gid, .int .i64 i.mt.time, .int .i32 i.mt.nano, .string ⟨#[]⟩, .string ⟨#[]⟩, .string na, .int .i64 0, .int .u8 0, .slice none 0 0] : Array Value).all (·.oneCell') = true by simp [Value.oneCell'])
        have HI55 := Lib.hid info55
        clear hlc hb8 hbx y1 y2 z2 hlook hy7
        have hwl : IntKind.i64.wrap lf = lf := IntWalk.i64_in _ (by have := HLF.out; omega)
        go_wp2_with (first
          | (refine wpList_store_keep rfl 55 (.tmp 24) (.tmp 95) rfl w7.heap.size 0 #[.string nb, .int .i64 4, .int .u32 i.mt.mode, .int .u32 i.mt.uid, .int .u32 i.mt.gid, .int .i64 i.mt.time, .int .i32 i.mt.nano, .string ⟨#[]⟩, .string ⟨#[]⟩, .string na, .int .i64 0, .int .u8 0, .slice none 0 0] rfl rfl HTH.out HI55.out HONE.out w7.heap.size (Nat.le_refl _) ?_; intro W11 hrr hbb; have p10 : W11.cell? ⟨w7.heap.size, 10, none⟩ = some (.int .i64 0) := hrr 10 _ rfl; have HRR := Lib.hid hrr; have HBB := Lib.hid hbb; have HO11 := Lib.hid (own_keep HO7.out (HB8.out.trans HBB.out)); clear hrr hbb)
          | (refine wpList_load_mid rfl 55 (.tmp 24) rfl w7.heap.size 0 rfl _ _ HRR.out Tryz.underlying55 rfl HI55.out ?_)
          | (at_builtin; refine wpList_append_own_at _ rfl (.tmp 107) (.tmp 109) 48 rfl b3 55 iP _ 13 144 Tryz.underlying48 hiP hzP0 hzP1 hzP2 rfl (by decide) (.slice (some ⟨g10, 0, none⟩) 1 cap9) 1 (#[.string na, .int .i64 2, .int .u32 i.mt.mode, .int .u32 i.mt.uid, .int .u32 i.mt.gid, .int .i64 i.mt.time, .int .i32 i.mt.nano, .string ⟨#[]⟩, .string ⟨#[]⟩, .string ⟨#[]⟩, .int .i64 (i.data.length : Int), .int .u8 0, .slice vA i.data.length vc] : Array Value).toList rfl (own_allocG HO11.out _) ⟨W11.heap.size, 0, none⟩ 1 1 (#[.string nb, .int .i64 4, .int .u32 i.mt.mode, .int .u32 i.mt.uid, .int .u32 i.mt.gid, .int .i64 i.mt.time, .int .i32 i.mt.nano, .string ⟨#[]⟩, .string ⟨#[]⟩, .string na, .int .i64 0, .int .u8 0, .slice none 0 0] : Array Value).toList rfl rfl (World.news_of_block (cs := #[.string nb, .int .i64 4, .int .u32 i.mt.mode, .int .u32 i.mt.uid, .int .u32 i.mt.gid, .int .i64 i.mt.time, .int .i32 i.mt.nano, .string ⟨#[]⟩, .string ⟨#[]⟩, .string na, .int .i64 0, .int .u8 0, .slice none 0 0]) (t := 55) (fr := (0, 0)) (heap_alloc_new W11 _)) (by simp [Value.oneCell']) (by unfold maxLen; omega) (by omega) (by have := (HT7.out.of_below (HB8.out.trans HBB.out)).le; simp; omega) ?_; intro v12 w12 ho12 hg12 hn12 ha12; have HO12 := Lib.hid ho12; have HG12 := Lib.hid hg12; clear ho12 hg12 hn12 ha12))
        rw [rounds_succ]
        go_wp2_with fail
        have hT11 := (HT7.out.of_below (HB8.out.trans HBB.out)).below
        have hg10 := (HO7.out.lt g10 rfl).1
        have hle := HT7.out.le
        have hD12 := (own_allocG (own_keep HD7.out (HB8.out.trans HBB.out)) (.cells #[.string nb, .int .i64 4, .int .u32 i.mt.mode, .int .u32 i.mt.uid, .int .u32 i.mt.gid, .int .i64 i.mt.time, .int .i32 i.mt.nano, .string ⟨#[]⟩, .string ⟨#[]⟩, .string na, .int .i64 0, .int .u8 0, .slice none 0 0] 55)).kept HG12.out (by
          cases hk : (Value.slice vA i.data.length vc).ownBlock with
          | none => exact .inl rfl
          | some k => exact .inr (by have := HNB.out k hk; simp [Value.ownBlock]; omega))
        have hB12 := (hT11.alloc hT11.size (.cells #[.string nb, .int .i64 4, .int .u32 i.mt.mode, .int .u32 i.mt.uid, .int .u32 i.mt.gid, .int .i64 i.mt.time, .int .i32 i.mt.nano, .string ⟨#[]⟩, .string ⟨#[]⟩, .string na, .int .i64 0, .int .u8 0, .slice none 0 0] 55)).grown HG12.out (by have := hT11.size; simp; omega) (fun k e => by simp [Value.ownBlock] at e; omega)
        go_ret2
        exact ⟨_, _, rfl, HO12.out.mono (by omega), hD12.mono (by omega), hB12⟩
end
end Go.Proofs.YtcjahipcfcghlaaGreatV
