/- vfs, pack, compare: contracts of the functions (texts VStat, VDone, VTurn, MERGED). -/
import Derived.Test.YtcjahipcfcghlaaGreatVRead2
import Derived.StillTailTactics
import Derived.BigRegion
import Derived.ProofKit
import Derived.Deep.AppendLies
import Derived.Deep.RegionLaw
import Derived.Laws.OwnMore
/- vfs: Stat. -/
namespace Go.Proofs.YtcjahipcfcghlaaGreatV
open Go.RowKit
set_option linter.unusedVariables false
set_option linter.unusedSimpArgs false
section
variable {w : World} {B f : Nat} {own : Nat → Option Int} {Ph : Phys} {S : FSt}
theorem row_slice {e : TypeId} {size n : Nat} {ok : Nat → Prop} {v : Value} {xs : List Value} (h : RowAt w B e size ok v n xs) : ∃ a c, v = .slice a n c ∧ n ≤ c ∧ c ≤ 9223372036854775807 := by
  rcases h.own.2 with ⟨rfl, rfl⟩ | ⟨g, cap, cur, rfl, _, _, h1, h2, _⟩
  · exact ⟨none, 0, rfl, Nat.le_refl _, by omega⟩
  · exact ⟨_, cap, rfl, h1, by have : maxLen = 9223372036854775807 := rfl; omega⟩
theorem cell_two (w : World) (b j : Nat) (hb : b < w.heap.size) (o1 o2 : Obj) : ((w.alloc o1).alloc o2).cell? ⟨b, j, none⟩ = w.cell? ⟨b, j, none⟩ := (below_two w o1 o2).cell (p := ⟨b, j, none⟩) hb
def statV (s : StatS) : Value := .agg #[.int .i64 s.node, .int .i64 s.kind, .int .u32 s.mt.mode, .int .u32 s.mt.uid, .int .u32 s.mt.gid, .int .i64 s.mt.time, .int .i32 s.mt.nano, .int .i64 s.links, .int .i64 s.size]
/-- 'len' of a directory's entries, or of no map. -/
theorem len_ents {n : Int} {ib : Nat} {dv ev : Value} {i : Ino} (h : InoAt w B own n ib dv ev i) (ty : TypeId) : (Builtin.len_ #[58] ty #[ev]).run Tryz.prog w = .ok (.int .i64 i.ents.length) w := by
  rcases h.ents with ⟨_, eb, rfl, _, h3⟩ | ⟨_, rfl, h2⟩
  · exact h3.len Tryz.underlying58 ty
  · rw [h2]
    simp [Builtin.len_, run_underlying Tryz.underlying58, goInt]
set_option maxHeartbeats 1000000 in
set_option maxRecDepth 100000 in
theorem Stat_some (h : FSRep w B f own Ph S) (I : Inv S) (node : Int) (i : Ino) (hi : aget node S.inodes = some i) :
    Calls Tryz.prog 81 #[.pointer (some ⟨f, 0, none⟩), .int .i64 node] w fun e w' => e = .returned (.tuple #[statV (statS S node).1, .int .i64 (statS S node).2]) ∧ Below w.heap.size w w' := by
  have hr : statS S node = (⟨node, i.kind, i.mt, i.links, i.data.length + i.ents.length + i.target.size⟩, 0) := by unfold statS; rw [hi]
  have ht : thereS S [node] = 0 := by simp [thereS, hi]
  have HD := Lib.hid hr
  have HT := Lib.hid ht
  have HR := Lib.hid h
  have Hi := Lib.hid hi
  obtain ⟨b1, b2, b3, b4, b5, _⟩ := I.ino node i hi
  clear h hr ht hi I
  go_enter Tryz.func81, Tryz.ntmps81
  go_wp2_with fail
  refine (there_one (HR.out.of_below (alloc_below _ _)) _ _ _ (by simp)).mono ?_
  rintro e w1 ⟨rfl, hw⟩
  rw [HT.out, hw]
  clear hw w1
  have hI := HR.out.inos node i Hi.out
  have hbl := Lib.hid (HR.out.below _ _ hI.ok).2
  obtain ⟨da, dc, hdv, _, _⟩ := row_slice hI.data
  have fr := fun (b j : Nat) (hb : b < w.heap.size) (o1 o2 : Obj) => cell_two w b j hb o1 o2
  have c4 := fun o1 o2 => (fr f 4 HR.out.f_lt o1 o2).trans HR.out.c.2.2.2.2.1
  have hlook := fun o1 o2 => look_some (HR.out.of_below (below_two w o1 o2)) Hi.out
  obtain ⟨k0, k1, k2, k3, k4, k5, k6, k7, k8, k9, k10⟩ := hI.c
  rw [hdv] at k6
  have g0 := fun o1 o2 => (fr _ 0 hbl.out o1 o2).trans k0
  have g1 := fun o1 o2 => (fr _ 1 hbl.out o1 o2).trans k1
  have g2 := fun o1 o2 => (fr _ 2 hbl.out o1 o2).trans k2
  have g3 := fun o1 o2 => (fr _ 3 hbl.out o1 o2).trans k3
  have g4 := fun o1 o2 => (fr _ 4 hbl.out o1 o2).trans k4
  have g5 := fun o1 o2 => (fr _ 5 hbl.out o1 o2).trans k5
  have g6 := fun o1 o2 => (fr _ 6 hbl.out o1 o2).trans k6
  have g7 := fun o1 o2 => (fr _ 7 hbl.out o1 o2).trans k7
  have g8 := fun o1 o2 => (fr _ 8 hbl.out o1 o2).trans k8
  have g9 := fun o1 o2 => (fr _ 9 hbl.out o1 o2).trans k9
  have hlen := fun o1 o2 => len_ents ((HR.out.of_below (below_two w o1 o2).drew).inos node i Hi.out)
  clear hI hdv fr k0 k1 k2 k3 k4 k5 k6 k7 k8 k9 k10
  go_wp2
  go_region
  go_wp2
  refine bodyPost_ret (v := .tuple #[statV ⟨node, i.kind, i.mt, i.links, i.data.length + i.ents.length + i.target.size⟩, .int .i64 0]) (by simp [results, Tryz.results81, go_sem, statV]) rfl ⟨by rw [HD.out], ?_⟩
  exact (below_two w _ _).drew
theorem Stat_calls (h : FSRep w B f own Ph S) (I : Inv S) (node : Int) :
    Calls Tryz.prog 81 #[.pointer (some ⟨f, 0, none⟩), .int .i64 node] w fun e w' => e = .returned (.tuple #[statV (statS S node).1, .int .i64 (statS S node).2]) ∧ Below w.heap.size w w' := by
  cases hi : aget node S.inodes with
  | some i => exact Stat_some h I node i hi
  | none =>
    have hr : statS S node = (⟨0, 0, zeroMt, 0, 0⟩, 100) := by unfold statS; rw [hi]
    have ht : thereS S [node] = 100 := by simp [thereS, hi]
    have HD := Lib.hid hr
    have HT := Lib.hid ht
    have HR := Lib.hid h
    clear h hr ht hi I
    go_enter Tryz.func81, Tryz.ntmps81
    go_wp2_with fail
    refine (there_one (HR.out.of_below (alloc_below _ _)) _ _ _ (by simp)).mono ?_
    rintro e w1 ⟨rfl, hw⟩
    rw [HT.out, hw]
    clear hw w1
    go_wp2
    refine bodyPost_ret (v := .tuple #[statV ⟨0, 0, zeroMt, 0, 0⟩, .int .i64 100]) (by simp [results, Tryz.results81, go_sem, statV, zeroMt]) rfl ⟨by rw [HD.out], ?_⟩
    exact below_two w _ _
end
end Go.Proofs.YtcjahipcfcghlaaGreatV

/- vfs: the trace. -/
namespace Go.Proofs.YtcjahipcfcghlaaGreatV
open Go.RowKit
set_option linter.unusedVariables false
set_option linter.unusedSimpArgs false
/-- What a call makes of a file system. -/
def Upd (w : World) (B f : Nat) (own : Nat → Option Int) (S' : FSt) (w' : World) : Prop := ∃ own' Ph', FSRep w' B f own' Ph' S' ∧ Frame w w' own own'
theorem Upd.same {w : World} {B f : Nat} {own : Nat → Option Int} {Ph : Phys} {S : FSt} (h : FSRep w B f own Ph S) : Upd w B f own S w := ⟨own, Ph, h, Frame.refl _ _⟩
theorem Upd.below {w w' : World} {B f : Nat} {own : Nat → Option Int} {Ph : Phys} {S : FSt} (h : FSRep w B f own Ph S) (hb : Below w.heap.size w w') : Upd w B f own S w' := ⟨own, Ph, h.of_below hb, Frame.of_below hb⟩
theorem Upd.after {w w1 w' : World} {B f : Nat} {own own1 : Nat → Option Int} {S' : FSt} (hf : Frame w w1 own own1) (h : Upd w1 B f own1 S' w') : Upd w B f own S' w' := by
  obtain ⟨o, p, h1, h2⟩ := h
  exact ⟨o, p, h1, hf.trans h2⟩
theorem Upd.then_below {w w1 w' : World} {B f : Nat} {own : Nat → Option Int} {S' : FSt} (h : Upd w B f own S' w1) (hb : Below w1.heap.size w1 w') : Upd w B f own S' w' := by
  obtain ⟨o, p, h1, h2⟩ := h
  exact ⟨o, p, h1.of_below hb, h2.trans (Frame.of_below hb)⟩
section
variable {w : World} {B f : Nat} {own : Nat → Option Int} {Ph : Phys} {S : FSt}
theorem actCells_len (a : Act8) : (actCells a).length = 8 := rfl
theorem rep_trace (h : FSRep w B f own Ph S) (a : Act8) {w3 : World} {v : Value} {g : Nat} (hs : w.heap.size ≤ w3.heap.size) (hf : w3.heap[f]? = some (.cells (topCells S { Ph with tv := v }) 68 (0, 0)))
    (hrest : ∀ b n, own b = some n → b ≠ f → Ph.tv.ownBlock ≠ some b → w3.heap[b]? = w.heap[b]?) (hrow : w3.ownsRow B 76 8 v (S.trace.length + 1) (S.trace.flatMap actCells ++ actCells a)) (hg : v.ownBlock = some g)
    (hgo : own g = some (-1) ∨ w.heap.size ≤ g) : FSRep w3 B f (fun b => if b = g then some (-1) else own b) { Ph with tv := v } (doneS S a) := by
  have hglt := hrow.lt g hg
  have hpos : ∀ n, n ∈ akeys S.inodes → n ≠ -1 := fun n hn => by have := h.pos n hn; omega
  have hneg : ∀ b n, own b = some n → n ≠ -1 → b ≠ g := fun b n hb hn e => by
    subst e
    rcases hgo with hg' | hg'
    · rw [hb] at hg'; exact hn (Option.some.inj hg')
    · have := (h.below b n hb).2; omega
  have hkeep : ∀ b n, own b = some n → n ≠ -1 → w3.heap[b]? = w.heap[b]? := fun b n hb hn => hrest b n hb (fun e => by subst e; rw [h.okf] at hb; exact hn (Option.some.inj hb).symm) (fun e => by have := h.trace.ok b e; rw [hb] at this; exact hn (Option.some.inj this))
  have hmbf : Ph.mb ≠ f := fun e => by
    obtain ⟨es, clock, hm, _⟩ := h.map
    rw [e, h.top] at hm
    cases hm
  have hmbt : Ph.tv.ownBlock ≠ some Ph.mb := fun e => by
    obtain ⟨es, clock, hm, _⟩ := h.map
    rcases h.trace.own.2 with ⟨h1, _⟩ | ⟨g', cap, cur, h1, _, h2, _⟩
    · rw [h1] at e; simp [Value.ownBlock] at e
    · rw [h1] at e
      simp [Value.ownBlock] at e
      rw [e, hm] at h2
      cases h2
  refine ⟨fun b n hb => ?_, hf, ?_, ?_, h.map.of_block (hrest _ _ h.okm hmbf hmbt), ⟨?_, fun k hk => ?_⟩, fun n i hi => ?_, h.nodup, h.pos⟩
  · by_cases e : b = g
    · subst e; exact hglt
    · simp only [if_neg e] at hb
      exact ⟨(h.below b n hb).1, Nat.lt_of_lt_of_le (h.below b n hb).2 hs⟩
  · split
    · rfl
    · exact h.okf
  · split
    · rfl
    · exact h.okm
  · have : (doneS S a).trace = S.trace ++ [a] := rfl
    rw [this, List.length_append, List.flatMap_append]
    simpa using hrow
  · have : k = g := by have := hg.symm.trans hk; exact (Option.some.inj this).symm
    rw [if_pos this]
  · have hn := hpos n (by
      have := aget_mem hi
      exact List.mem_map.2 ⟨_, this, rfl⟩)
    refine (h.inos n i hi).move fun k hk => ⟨hkeep k n hk hn, ?_⟩
    rw [if_neg (hneg k n hk hn)]
    exact hk
def actZero : Value := .agg #[.int .i64 0, .int .i64 0, .string ⟨#[]⟩, .int .i64 0, .int .i64 0, .string ⟨#[]⟩, .int .i64 0, .int .i64 0]
theorem infoAct : (Tryz.prog.info? 76).map (fun i => (i.zero, i.size, i.bytes)) = some (some actZero, 8, 80) := by kernel_rfl
def actV (a : Act8) : Value := .agg #[.int .i64 a.op, .int .i64 a.dir, .string a.name, .int .i64 a.node, .int .i64 a.to, .string a.other, .int .i64 a.at_, .int .i64 a.n]
theorem heap_two (w : World) (o1 o2 : Obj) : ((w.alloc o1).alloc o2).heap[w.heap.size + 1]? = some o2 := by
  have := (MapKept.heap_alloc (w.alloc o1) o2).1
  simpa using this
theorem FSRep.f_ne (h : FSRep w B f own Ph S) : some f ≠ Ph.tv.ownBlock := fun e => by
  rcases h.trace.own.2 with ⟨h1, _⟩ | ⟨g', cap, cur, h1, _, h2, _⟩
  · rw [h1] at e; simp [Value.ownBlock] at e
  · rw [h1] at e
    simp [Value.ownBlock] at e
    rw [← e, h.top] at h2
    simp at h2
/-- Behind the append and the store into the file system's own struct. -/
theorem done_end (h : FSRep w B f own Ph S) (a : Act8) {W w2 : World} {g cap : Nat} (hW : Below w.heap.size w W) (hown : w2.ownsRow B 76 8 (.slice (some ⟨g, 0, none⟩) (S.trace.length + 1) cap) (S.trace.length + 1) (S.trace.flatMap actCells ++ actCells a))
    (hgrow : W.grownBy w2 Ph.tv.ownBlock) (hat : Ph.tv.ownBlock = some g ∨ w.heap.size ≤ g) : Upd w B f own (doneS S a) (w2.setCell ⟨f, 5, none⟩ (.slice (some ⟨g, 0, none⟩) (S.trace.length + 1) cap)) := by
  have hf2 : w2.heap[f]? = some (.cells (topCells S Ph) 68 (0, 0)) := by
    rw [hgrow.block f (Nat.lt_of_lt_of_le h.f_lt hW.size) h.f_ne, hW.block f h.f_lt]; exact h.top
  have hgf : g ≠ f := fun e => by
    subst e
    rcases hat with e | e
    · exact h.f_ne e.symm
    · have := h.f_lt; omega
  have hsz : (w2.setCell ⟨f, 5, none⟩ (.slice (some ⟨g, 0, none⟩) (S.trace.length + 1) cap)).heap.size = w2.heap.size := by simp [World.setCell]
  have hle : w.heap.size ≤ w2.heap.size := Nat.le_trans hW.size hgrow.size
  refine ⟨fun b => if b = g then some (-1) else own b, { Ph with tv := .slice (some ⟨g, 0, none⟩) (S.trace.length + 1) cap }, rep_trace h a (g := g) (by rw [hsz]; exact hle) ?_ (fun b n hb hbf hbt => ?_) ?_ rfl ?_, ⟨hgrow.os.trans hW.os, hgrow.tape.trans hW.tape, hgrow.output.trans hW.output, by rw [hsz]; exact hle, fun b hb ho => ?_⟩⟩
  · simp only [World.setCell, Array.getElem?_modify, if_pos, hf2, Option.map_some]
    rfl
  · rw [Below.heap_setCell _ _ _ _ (by simpa using hbf), hgrow.block b (Nat.lt_of_lt_of_le (h.below b n hb).2 hW.size) (fun e => hbt e.symm), hW.block b (h.below b n hb).2]
  · exact own_move hown fun k hk => by
      have : k = g := by simpa [Value.ownBlock] using hk.symm
      rw [Below.heap_setCell _ _ _ _ (by subst this; simpa using hgf)]
  · rcases hat with e | e
    · exact .inl (h.trace.ok g e)
    · exact .inr e
  · have hbf : b ≠ f := fun e => by subst e; rw [h.okf] at ho; cases ho
    have hbt : Ph.tv.ownBlock ≠ some b := fun e => by have := h.trace.ok b e; rw [ho] at this; cases this
    refine ⟨by rw [Below.heap_setCell _ _ _ _ (by simpa using hbf), hgrow.block b (Nat.lt_of_lt_of_le hb hW.size) (fun e => hbt e.symm), hW.block b hb], ?_⟩
    rw [if_neg (fun e => by
      subst e
      rcases hat with e | e
      · exact hbt e
      · omega)]
    exact ho
set_option maxHeartbeats 1000000 in
set_option maxRecDepth 100000 in
theorem done_calls (h : FSRep w B f own Ph S) (hB : B ≤ w.heap.size) (ht : S.trace.length ≤ 1000000001) (a : Act8) :
    Calls Tryz.prog 21 #[.pointer (some ⟨f, 0, none⟩), actV a] w fun e w' => e = .returned (.int .i64 0) ∧ Upd w B f own (doneS S a) w' := by
  obtain ⟨i0, hi, hz0, hz1, hz2⟩ := info_parts infoAct
  have HR := Lib.hid h
  have c5 := fun o1 => (((alloc_below w o1).cell (p := ⟨f, 5, none⟩) h.f_lt).trans h.c.2.2.2.2.2)
  have c5b := fun o1 o2 => (((below_two w o1 o2).cell (p := ⟨f, 5, none⟩) h.f_lt).trans h.c.2.2.2.2.2)
  have hown := fun o1 o2 => (h.of_below (below_two w o1 o2).drew).trace.own
  have Hown := Lib.hid hown
  unfold actV
  clear h hown
  go_enter Tryz.func21, Tryz.ntmps21
  go_wp2
  go_region_law (refine step_append_lies _ (by rfl) _ _ _ (by rfl) B 76 i0 actZero 8 80 Tryz.underlying66 hi hz0 hz1 hz2 rfl (by decide) Ph.tv S.trace.length (S.trace.flatMap actCells) (by simp [Act.eval, Act.put]) (Hown.out _ _) ⟨w.heap.size + 1, 0, none⟩ 1 1 (actCells a) (by simp [Act.eval, Act.put]) rfl (World.news_of_block (cs := (actCells a).toArray) (heap_two w _ _)) (by intro u hu; simp [actCells] at hu; rcases hu with rfl | rfl | rfl | rfl | rfl | rfl | rfl | rfl <;> rfl) (by decide) (by unfold maxLen; omega) (by omega) (by simp; omega) (w.heap.size + 2) (by simp) ?_; intro g cap w2 hown2 hgrow hat hlt; have hg2 := Lib.hid hgrow; have ho2 := Lib.hid hown2; have ha2 := Lib.hid hat; have c52 : w2.cell? ⟨f, 5, none⟩ = some Ph.tv := hgrow.cell (((below_two w _ _).drew.cell (p := ⟨f, 5, none⟩) HR.out.f_lt).trans HR.out.c.2.2.2.2.2) HR.out.f_ne; have f52 : w2.frozen? ⟨f, 5, none⟩ = false := (World.frozen?_of_block (hgrow.block f (by have := HR.out.f_lt; simp; omega) HR.out.f_ne)).trans (((below_two w _ _).drew.frozen (p := ⟨f, 5, none⟩) HR.out.f_lt).trans (HR.out.fz 5)); clear hgrow hown2 hat)
  all_goals
    go_wp2
    go_ret
    exact ⟨rfl, done_end HR.out a (below_two w _ _).drew ho2.out hg2.out (ha2.out.imp id (fun e => by omega))⟩
end
end Go.Proofs.YtcjahipcfcghlaaGreatV

/- vfs: how a file system's state turns. -/
namespace Go.Proofs.YtcjahipcfcghlaaGreatV
open Go.RowKit
set_option linter.unusedVariables false
set_option linter.unusedSimpArgs false
theorem adopt_map {κ ν μ : Type} [DecidableEq κ] (g : κ → μ) (l : List (κ × ν)) : l.map (fun p => (p.1, g p.1)) = (akeys l).map fun k => (k, g k) := by
  unfold akeys
  rw [List.map_map]
  rfl
theorem aget_mem_keys {κ ν : Type} [DecidableEq κ] {k : κ} {v : ν} {l : List (κ × ν)} (h : aget k l = some v) : k ∈ akeys l := List.mem_map.2 ⟨_, aget_mem h, rfl⟩
/-- A map's rows of a state where one number's value is put anew, or for the first time. -/
theorem rows_aset {κ ν μ : Type} [DecidableEq κ] (k : κ) (v : ν) (g : κ → μ) : ∀ (l : List (κ × ν)), (aset k v l).map (fun p => (p.1, g p.1)) = aset k (g k) (l.map fun p => (p.1, g p.1))
  | [] => rfl
  | p :: l => by
    have ih := rows_aset k v g l
    simp only [aset, List.map_cons]
    by_cases hp : p.1 = k
    · rw [if_pos hp, if_pos hp]; rfl
    · rw [if_neg hp, if_neg hp, List.map_cons, ih]
theorem aset_same {κ ν : Type} [DecidableEq κ] {k : κ} {v : ν} : ∀ {l : List (κ × ν)}, aget k l = some v → aset k v l = l
  | [], h => by simp [aget] at h
  | p :: l, h => by
    simp only [aget, aset] at h ⊢
    split at h
    · rename_i hp
      rw [if_pos hp]
      obtain ⟨a, b⟩ := p
      cases h
      cases hp
      rfl
    · rename_i hp
      rw [if_neg hp, aset_same h]
theorem rows_adel {κ ν μ : Type} [DecidableEq κ] (k : κ) (g : κ → μ) : ∀ (l : List (κ × ν)), (adel k l).map (fun p => (p.1, g p.1)) = adel k (l.map fun p => (p.1, g p.1))
  | [] => rfl
  | p :: l => by
    have ih := rows_adel k g l
    simp only [adel, List.map_cons]
    by_cases hp : p.1 = k
    · rw [if_pos hp, if_pos hp]
    · rw [if_neg hp, if_neg hp, List.map_cons, ih]
section
variable {w : World} {B f : Nat} {own : Nat → Option Int} {Ph : Phys} {S : FSt}
theorem FSRep.lt (h : FSRep w B f own Ph S) {b : Nat} {m : Int} (ho : own b = some m) : b < w.heap.size := (h.below b m ho).2
theorem FSRep.mb_ne (h : FSRep w B f own Ph S) : Ph.mb ≠ f := fun e => by
  obtain ⟨es, clock, hm, _⟩ := h.map
  rw [e, h.top] at hm
  cases hm
theorem FSRep.ino_neg (h : FSRep w B f own Ph S) {n : Int} {i : Ino} (hi : aget n S.inodes = some i) : n ≠ -1 := fun e => by
  have := h.pos n (aget_mem_keys hi)
  omega
theorem FSRep.ino_ne (h : FSRep w B f own Ph S) {n : Int} {i : Ino} (hi : aget n S.inodes = some i) {k : Nat} (hk : own k = some n) : k ≠ f := fun e => by
  rw [e, h.okf] at hk
  exact h.ino_neg hi (Option.some.inj hk).symm
theorem FSRep.tv_ne (h : FSRep w B f own Ph S) {k : Nat} (hk : Ph.tv.ownBlock = some k) : k ≠ f := fun e => h.f_ne (by rw [hk, e])
theorem FSRep.tv_mb (h : FSRep w B f own Ph S) {k : Nat} (hk : Ph.tv.ownBlock = some k) : k ≠ Ph.mb := fun e => by
  obtain ⟨es, clock, hm, _⟩ := h.map
  rcases h.trace.own.2 with ⟨h1, _⟩ | ⟨g', cap, cur, h1, _, h2, _⟩
  · rw [h1] at hk; simp [Value.ownBlock] at hk
  · rw [h1] at hk
    simp [Value.ownBlock] at hk
    rw [hk, e, hm] at h2
    cases h2
/-- The numbers of the file system's own struct. -/
theorem FSRep.top_set (h : FSRep w B f own Ph S) (nx us : Int) {w' : World} (hs : w.heap.size ≤ w'.heap.size) (hb : ∀ b, b < w.heap.size → b ≠ f → w'.heap[b]? = w.heap[b]?)
    (hf : w'.heap[f]? = some (.cells (topCells { S with next := nx, used := us } Ph) 68 (0, 0))) : FSRep w' B f own Ph { S with next := nx, used := us } := by
  refine ⟨fun b n ho => ⟨(h.below b n ho).1, Nat.lt_of_lt_of_le (h.below b n ho).2 hs⟩, hf, h.okf, h.okm, h.map.of_block (hb _ (h.lt h.okm) h.mb_ne), ⟨own_move h.trace.own fun k hk => hb k (h.lt (h.trace.ok k hk)) (h.tv_ne hk), h.trace.ok⟩,
    fun n i hi => (h.inos n i hi).move fun k hk => ⟨hb k (h.lt hk) (h.ino_ne hi hk), hk⟩, h.nodup, h.pos⟩
def Phys.at (Ph : Phys) (n : Int) (dv ev : Value) : Phys := { Ph with dv := fun m => if m = n then dv else Ph.dv m, ev := fun m => if m = n then ev else Ph.ev m }
/-- One inode has turned. -/
theorem FSRep.ino_set (h : FSRep w B f own Ph S) {n : Int} {i i' : Ino} (hi : aget n S.inodes = some i) {own' : Nat → Option Int} {dv ev : Value} {w' : World} (hs : w.heap.size ≤ w'.heap.size)
    (hkeep : ∀ b m, own b = some m → m ≠ n → w'.heap[b]? = w.heap[b]? ∧ own' b = some m) (hbelow : ∀ b m, own' b = some m → B ≤ b ∧ b < w'.heap.size)
    (hI : InoAt w' B own' n (Ph.ib n) dv ev i') : FSRep w' B f own' (Ph.at n dv ev) (setIno S n i') := by
  have hn := (h.ino_neg hi).symm
  refine ⟨hbelow, (hkeep f _ h.okf hn).1.trans h.top, (hkeep f _ h.okf hn).2, (hkeep _ _ h.okm hn).2, ?_, h.trace.move fun k hk => hkeep k _ hk hn, fun m j hj => ?_, aset_nodup h.nodup, fun m hm => ?_⟩
  · have hr := h.map.of_block (hkeep _ _ h.okm hn).1
    show MapAt keyInt encPtr w' Ph.mb ((aset n i' S.inodes).map fun p => (p.1, Ph.ib p.1))
    rw [rows_aset, aset_same (by rw [aget_map, hi]; rfl)]
    exact hr
  · have hj' : (if n = m then some i' else aget m S.inodes) = some j := (aget_aset n m i' S.inodes).symm.trans hj
    by_cases e : n = m
    · subst e
      rw [if_pos rfl] at hj'
      cases hj'
      simpa [Phys.at] using hI
    · rw [if_neg e] at hj'
      have : InoAt w' B own' m (Ph.ib m) (Ph.dv m) (Ph.ev m) j := (h.inos m j hj').move fun k hk => hkeep k m hk (fun e' => e e'.symm)
      simpa [Phys.at, if_neg (fun e' : m = n => e e'.symm)] using this
  · have hm' := hm
    rw [show akeys (setIno S n i').inodes = _ from akeys_aset n i' S.inodes, if_pos (aget_mem_keys hi)] at hm'
    exact h.pos m hm'
/-- A number in an inode's struct. -/
theorem FSRep.cell_set (h : FSRep w B f own Ph S) {n : Int} {i i' : Ino} (hi : aget n S.inodes = some i) (hk : i'.kind = i.kind) (hd : i'.data = i.data) (he : i'.ents = i.ents) {w' : World} (hs : w.heap.size ≤ w'.heap.size)
    (hb : ∀ b, b < w.heap.size → b ≠ Ph.ib n → w'.heap[b]? = w.heap[b]?) (hc : w'.heap[Ph.ib n]? = some (.cells (inoCells i' (Ph.dv n) (Ph.ev n)) 71 (0, 0))) : FSRep w' B f own (Ph.at n (Ph.dv n) (Ph.ev n)) (setIno S n i') := by
  have hI := h.inos n i hi
  refine h.ino_set hi hs (fun b m ho hm => ⟨hb b (h.lt ho) (fun e => hm ?_), ho⟩) (fun b m ho => ⟨(h.below b m ho).1, Nat.lt_of_lt_of_le (h.below b m ho).2 hs⟩) ⟨hc, hI.ok, ?_, ?_⟩
  · rw [e, hI.ok] at ho
    exact (Option.some.inj ho).symm
  · rw [hd]
    refine ⟨own_move hI.data.own fun k hk => hb k (h.lt (hI.data.ok k hk)) fun e => ?_, hI.data.ok⟩
    rcases hI.data.own.2 with ⟨h1, _⟩ | ⟨g', cap, cur, h1, _, h2, _⟩
    · rw [h1] at hk; simp [Value.ownBlock] at hk
    · rw [h1] at hk
      simp [Value.ownBlock] at hk
      rw [hk, e, hI.cells] at h2
      simp at h2
  · rcases hI.ents with ⟨h1, eb, h2, h3, h4⟩ | ⟨h1, h2, h3⟩
    · refine .inl ⟨hk.trans h1, eb, h2, h3, ?_⟩
      rw [he]
      refine h4.of_block (hb eb (h.lt h3) fun e => ?_)
      obtain ⟨es, clock, hm, _⟩ := h4
      rw [e, hI.cells] at hm
      cases hm
    · exact .inr ⟨fun e => h1 (hk.symm.trans e), h2, he.trans h3⟩
/-- A directory's entries. -/
theorem FSRep.ents_set (h : FSRep w B f own Ph S) {n : Int} {i : Ino} (hi : aget n S.inodes = some i) (hk : i.kind = 1) {eb : Nat} (he : Ph.ev n = .map (some eb)) (m' : List (ByteArray × Int)) {w' : World} (ht : Turned w w' eb)
    (hm : MapAt keyStr (Value.int .i64) w' eb m') : FSRep w' B f own (Ph.at n (Ph.dv n) (Ph.ev n)) (setIno S n { i with ents := m' }) := by
  have hI := h.inos n i hi
  obtain ⟨eb', he', ho', hM⟩ := hI.dir hk
  have : eb' = eb := by
    rw [he] at he'
    simpa using he'.symm
  subst this
  refine h.ino_set hi (Nat.le_of_eq ht.size.symm) (fun b m ho hmn => ⟨ht.block b (fun e => hmn ?_), ho⟩) (fun b m ho => ⟨(h.below b m ho).1, by rw [ht.size]; exact (h.below b m ho).2⟩) ⟨(ht.block _ fun e => ?_).trans hI.cells, hI.ok, ?_, .inl ⟨hk, eb', he, ho', hm⟩⟩
  · rw [e, ho'] at ho
    exact (Option.some.inj ho).symm
  · obtain ⟨es, clock, hm', _⟩ := hM
    rw [← e, hI.cells] at hm'
    cases hm'
  · refine ⟨own_move hI.data.own fun k hk' => ht.block k fun e => ?_, hI.data.ok⟩
    obtain ⟨es, clock, hm', _⟩ := hM
    rcases hI.data.own.2 with ⟨h1, _⟩ | ⟨g', cap, cur, h1, _, h2, _⟩
    · rw [h1] at hk'; simp [Value.ownBlock] at hk'
    · rw [h1] at hk'
      simp [Value.ownBlock] at hk'
      rw [hk', e, hm'] at h2
      cases h2
def Phys.new (Ph : Phys) (n : Int) (ib : Nat) (dv ev : Value) : Phys := { Ph with ib := fun m => if m = n then ib else Ph.ib m, dv := fun m => if m = n then dv else Ph.dv m, ev := fun m => if m = n then ev else Ph.ev m }
/-- A new inode. -/
theorem FSRep.ino_new (h : FSRep w B f own Ph S) {n : Int} {i : Ino} (hn : aget n S.inodes = none) (hp : 0 < n) {ib : Nat} {dv ev : Value} (hI : InoAt w B own n ib dv ev i) {w' : World} (ht : Turned w w' Ph.mb)
    (hm : MapAt keyInt encPtr w' Ph.mb (aset n ib (S.inodes.map fun p => (p.1, Ph.ib p.1)))) : FSRep w' B f own (Ph.new n ib dv ev) (setIno S n i) := by
  have hne : ∀ k, k ∈ akeys S.inodes → k ≠ n := fun k hk e => by subst e; exact (aget_none_iff.1 hn) hk
  have hkeep : ∀ b m, own b = some m → m ≠ -1 → w'.heap[b]? = w.heap[b]? ∧ own b = some m := fun b m ho hm => ⟨ht.block b fun e => by rw [e, h.okm] at ho; exact hm (Option.some.inj ho).symm, ho⟩
  refine ⟨fun b m ho => ⟨(h.below b m ho).1, by rw [ht.size]; exact (h.below b m ho).2⟩, (ht.block f (Ne.symm h.mb_ne)).trans h.top, h.okf, h.okm, ?_, ⟨own_move h.trace.own fun k hk => ht.block k (h.tv_mb hk), h.trace.ok⟩, fun m j hj => ?_, aset_nodup h.nodup, fun m hm => ?_⟩
  · show MapAt keyInt encPtr w' Ph.mb ((aset n i S.inodes).map fun p => (p.1, if p.1 = n then ib else Ph.ib p.1))
    rw [rows_aset n i (fun k => if k = n then ib else Ph.ib k) S.inodes, if_pos rfl]
    have : (S.inodes.map fun p => (p.1, if p.1 = n then ib else Ph.ib p.1)) = S.inodes.map fun p => (p.1, Ph.ib p.1) := List.map_congr_left fun p hp => by
      show (p.1, if p.1 = n then ib else Ph.ib p.1) = _
      rw [if_neg (hne p.1 (List.mem_map.2 ⟨p, hp, rfl⟩))]
    rw [this]
    exact hm
  · have hj' : (if n = m then some i else aget m S.inodes) = some j := (aget_aset n m i S.inodes).symm.trans hj
    by_cases e : n = m
    · subst e
      rw [if_pos rfl] at hj'
      cases hj'
      have : InoAt w' B own n ib dv ev i := hI.move fun k hk => hkeep k n hk (by omega)
      simpa [Phys.new] using this
    · rw [if_neg e] at hj'
      have : InoAt w' B own m (Ph.ib m) (Ph.dv m) (Ph.ev m) j := (h.inos m j hj').move fun k hk => hkeep k m hk (h.ino_neg hj')
      simpa [Phys.new, if_neg (fun e' : m = n => e e'.symm)] using this
  · have hm' : m ∈ akeys (aset n i S.inodes) := hm
    rw [akeys_aset, if_neg (aget_none_iff.1 hn), List.mem_append] at hm'
    rcases hm' with h1 | h1
    · exact h.pos m h1
    · rw [List.mem_singleton.1 h1]; exact hp
/-- An inode goes. -/
theorem FSRep.ino_drop (h : FSRep w B f own Ph S) (n : Int) {w' : World} (ht : Turned w w' Ph.mb) (hm : MapAt keyInt encPtr w' Ph.mb (adel n (S.inodes.map fun p => (p.1, Ph.ib p.1)))) : FSRep w' B f own Ph { S with inodes := adel n S.inodes } := by
  have hkeep : ∀ b m, own b = some m → m ≠ -1 → w'.heap[b]? = w.heap[b]? ∧ own b = some m := fun b m ho hm => ⟨ht.block b fun e => by rw [e, h.okm] at ho; exact hm (Option.some.inj ho).symm, ho⟩
  refine ⟨fun b m ho => ⟨(h.below b m ho).1, by rw [ht.size]; exact (h.below b m ho).2⟩, (ht.block f (Ne.symm h.mb_ne)).trans h.top, h.okf, h.okm, ?_, ⟨own_move h.trace.own fun k hk => ht.block k (h.tv_mb hk), h.trace.ok⟩, fun m j hj => ?_, adel_nodup h.nodup, fun m hm => ?_⟩
  · show MapAt keyInt encPtr w' Ph.mb ((adel n S.inodes).map fun p => (p.1, Ph.ib p.1))
    rw [rows_adel]
    exact hm
  · have hj' : (if n = m then none else aget m S.inodes) = some j := (aget_adel m h.nodup).symm.trans hj
    by_cases e : n = m
    · rw [if_pos e] at hj'; cases hj'
    · rw [if_neg e] at hj'
      exact (h.inos m j hj').move fun k hk => hkeep k m hk (h.ino_neg hj')
  · obtain ⟨p, hp, rfl⟩ := List.mem_map.1 hm
    exact h.pos _ (List.mem_map.2 ⟨p, (adel_sub n S.inodes).subset hp, rfl⟩)
/-- New blocks are taken in for a number. -/
theorem FSRep.adopt (h : FSRep w B f own Ph S) {own' : Nat → Option Int} {w' : World} (hs : w.heap.size ≤ w'.heap.size) (hb : ∀ b, b < w.heap.size → w'.heap[b]? = w.heap[b]?) (ho : ∀ b m, own b = some m → own' b = some m) (hl : ∀ b m, own' b = some m → B ≤ b ∧ b < w'.heap.size) : FSRep w' B f own' Ph S := by
  have hm : ∀ b m, own b = some m → w'.heap[b]? = w.heap[b]? ∧ own' b = some m := fun b m hb' => ⟨hb b (h.lt hb'), ho b m hb'⟩
  exact ⟨hl, (hm f _ h.okf).1.trans h.top, ho _ _ h.okf, ho _ _ h.okm, h.map.of_block (hm _ _ h.okm).1, h.trace.move fun k hk => hm k _ hk, fun n i hi => (h.inos n i hi).move fun k hk => hm k _ hk, h.nodup, h.pos⟩
theorem Frame.of_turned {w w' : World} {own : Nat → Option Int} {b : Nat} (h : Turned w w' b) (hb : own b ≠ none) : Frame w w' own own :=
  ⟨h.os, h.tape, h.output, Nat.le_of_eq h.size.symm, fun k _ hk => ⟨h.block k fun e => by rw [e] at hk; exact hb hk, hk⟩⟩
theorem Turned.setCell (w : World) (b j : Nat) (v : Value) : Turned w (w.setCell ⟨b, j, none⟩ v) b :=
  ⟨rfl, rfl, rfl, by simp [World.setCell], fun i hi => Below.heap_setCell _ _ _ _ (by simpa using hi)⟩
theorem heap_setCell_at {w : World} {b : Nat} {c : Array Value} {t : TypeId} {fr : Nat × Nat} (h : w.heap[b]? = some (.cells c t fr)) (j : Nat) (v : Value) : (w.setCell ⟨b, j, none⟩ v).heap[b]? = some (.cells (c.setIfInBounds j v) t fr) := by
  simp only [World.setCell, Array.getElem?_modify, if_pos, h, Option.map_some]
  rfl
end
end Go.Proofs.YtcjahipcfcghlaaGreatV
