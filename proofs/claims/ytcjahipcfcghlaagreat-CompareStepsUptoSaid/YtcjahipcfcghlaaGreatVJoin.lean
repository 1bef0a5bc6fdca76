/- vfs, pack, compare: contracts of the functions (texts VKeysS, VListG, VListF, VWay, VJoin, MERGED). -/
import Derived.Test.YtcjahipcfcghlaaGreatVNew
import Derived.Test.YtcjahipcfcghlaaGreatIter
import Derived.Test.YtcjahipcfcghlaaGreatClone
import Derived.Maps.Keyed
import Derived.Maps.AppendAt
import Derived.WalkKit
import Derived.Deep.Onto
import Derived.IntWalk
import Derived.Test.YtcjahipcfcghlaaGreatShelf
/- vfs: what the kit's contracts on sorted keys read of a map's block (strings). -/
namespace Go.Proofs.YtcjahipcfcghlaaGreatV
open Go.RowKit
set_option linter.unusedVariables false
set_option linter.unusedSimpArgs false
theorem nodup_inj {α β : Type} (f : α → β) : ∀ {l : List α}, (l.map f).Nodup → ∀ {a b : α}, a ∈ l → b ∈ l → f a = f b → a = b
  | x :: l, h, a, b, ha, hb, e => by
    rw [List.map_cons, List.nodup_cons] at h
    rcases List.mem_cons.1 ha with ea | ha <;> rcases List.mem_cons.1 hb with eb | hb
    · rw [ea, eb]
    · exact absurd (List.mem_map.2 ⟨b, hb, by rw [← e, ea]⟩) h.1
    · exact absurd (List.mem_map.2 ⟨a, ha, by rw [e, eb]⟩) h.1
    · exact nodup_inj f h.2 ha hb e
theorem es_mem {ν : Type} {venc : ν → Value} {es : List MapEntry} {m : List (ByteArray × ν)} (h : EsIs keyStr venc es m) : ∀ e ∈ es, ∃ p ∈ m, e.key = .string p.1 ∧ e.val = venc p.2 := by
  intro e he
  have : (e.key, e.val) ∈ m.map (fun p => (keyStr.enc p.1, venc p.2)) := by
    rw [← h]
    exact List.mem_map.2 ⟨e, he, rfl⟩
  obtain ⟨p, hp, e2⟩ := List.mem_map.1 this
  exact ⟨p, hp, (congrArg Prod.fst e2).symm, (congrArg Prod.snd e2).symm⟩
theorem es_keys {ν : Type} {venc : ν → Value} {es : List MapEntry} {m : List (ByteArray × ν)} (h : EsIs keyStr venc es m) (hm : (akeys m).Nodup) : (es.map (·.key)).Nodup := by
  have e1 : es.map (·.key) = m.map (fun p => Value.string p.1) := by
    have := congrArg (List.map Prod.fst) h
    simpa [EsIs, List.map_map, Function.comp_def, keyStr] using this
  rw [e1]
  unfold akeys at hm
  have : m.map (fun p => Value.string p.1) = (m.map (·.1)).map Value.string := by rw [List.map_map]; rfl
  rw [this]
  exact List.Pairwise.map _ (fun a b hab e => hab (Value.string.inj e)) hm
theorem own_of_map {H : Type} {ν : Type} {venc : ν → Value} {w : World} {b : Nat} {m : List (ByteArray × ν)} (h : MapAt keyStr venc w b m) (hm : (akeys m).Nodup) (hl : m.length ≤ maxLen) (hk : ∀ p ∈ m, p.1.size ≤ maxLen) :
    ∃ D0 : DataW H, w.ownsMap Tryz.prog 9 (fun _ => some (.nil, [])) b m.length D0 ∧ (Go.strKeys D0).Perm (m.map fun p => p.1.data.toList) ∧ Go.Maps.size D0 = m.length := by
  obtain ⟨es, clock, hb, hes, hs1, hs2⟩ := h
  have hlen : es.size = m.length := by have := hes.len; simpa using this
  have hrd : ∀ e ∈ es.toList, ∃ p ∈ m, e.key = .string p.1 ∧ Go.WideElems.rd Tryz.prog 9 (fun _ => some ((.nil : DataW H), [])) e = some (.string p.1.data.toList, .nil) := fun e he => by
    obtain ⟨p, hp, h1, h2⟩ := es_mem hes e he
    have hko : keyOf Tryz.prog 9 e.key = some (.string p.1.data.toList) := by
      rw [h1]
      exact Go.WideMaps.keyOf_string_mk Tryz.underlying9 (hk p hp)
    refine ⟨p, hp, h1, ?_⟩
    simp [Go.WideElems.rd, hko]
  refine ⟨_, ⟨es, clock, hb, ⟨by omega, ?_, fun x hx => ?_⟩, by omega, rfl⟩, ?_, ?_⟩
  · rw [MapKept.stamped_iff]
    refine ⟨hs1, hs2, ?_⟩
    have := es_keys hes hm
    rw [List.nodup_iff_pairwise_ne, List.pairwise_map] at this
    exact this
  · obtain ⟨p, _, _, hr⟩ := hrd x hx
    exact ⟨_, hr⟩
  · have hp := (Go.WideShapes.sorted_perm (es.toList.map (Go.WideElems.rg Tryz.prog 9 (fun _ => some ((.nil : DataW H), []))))).map (fun p => Go.strOf p.1)
    refine hp.trans ?_
    rw [List.map_map]
    have e1 : es.toList.map ((fun p => Go.strOf p.1) ∘ Go.WideElems.rg Tryz.prog 9 (fun _ => some ((.nil : DataW H), []))) = (es.toList.map (·.key)).map (fun v => match v with | .string s => s.data.toList | _ => []) := by
      rw [List.map_map]
      refine List.map_congr_left (fun e he => ?_)
      obtain ⟨p, hp, h1, h2⟩ := hrd e he
      simp only [Function.comp, Go.WideElems.rg_of h2, h1]
      rfl
    have e2 : es.toList.map (·.key) = m.map (fun p => Value.string p.1) := by
      have := congrArg (List.map Prod.fst) hes
      simpa [EsIs, List.map_map, Function.comp_def, keyStr] using this
    rw [e1, e2, List.map_map]
    exact List.Perm.refl _
  · show ((es.toList.map _).foldr DataW.insert []).length = m.length
    rw [DataW.length_sorted, List.length_map, Array.length_toList, hlen]
theorem infoNamed : (Tryz.prog.info? 177).map (fun i => (i.zero, i.size, i.bytes)) = some (some (.agg #[.string ⟨#[]⟩, .int .i64 0]), 2, 24) := by kernel_rfl
end Go.Proofs.YtcjahipcfcghlaaGreatV

/- vfs: a directory's entries, told, rising: whatever entries there are. -/
namespace Go.Proofs.YtcjahipcfcghlaaGreatV
open Go.RowKit
set_option linter.unusedVariables false
set_option linter.unusedSimpArgs false
/-- A fact that no tactic looks into. -/
structure Aside0 (p : Prop) : Prop where
  out : p
theorem below_alloc2 {w W : World} (h : Below w.heap.size w W) (o : Obj) : Below w.heap.size w (W.alloc o) := h.alloc h.size o
theorem own_allocG {w : World} {base : Nat} {e : TypeId} {size n : Nat} {v : Value} {xs : List Value} (h : w.ownsRow base e size v n xs) (o : Obj) : (w.alloc o).ownsRow base e size v n xs :=
  own_move h fun k hk => Below.heap_alloc w o k (h.lt k hk).2
/-- A map's keys, rising. -/
def keysOf (m : List (ByteArray × Int)) : List ByteArray := ((m.map fun p => p.1.data.toList).mergeSort fun x y => decide (x ≤ y)).map fun s => (⟨s.toArray⟩ : ByteArray)
def entOf (m : List (ByteArray × Int)) (k : ByteArray) : List Value := [.string k, .int .i64 ((aget k m).getD 0)]
theorem keysOf_len (m : List (ByteArray × Int)) : (keysOf m).length = m.length := by unfold keysOf; simp
theorem flat_len {α : Type} (f : α → List Value) (k : Nat) (hf : ∀ a, (f a).length = k) : ∀ l : List α, (l.flatMap f).length = l.length * k
  | [] => by simp
  | a :: l => by simp [hf, flat_len f k hf l, Nat.add_mul, Nat.add_comm]
section
variable {w : World}
set_option maxHeartbeats 4000000 in
set_option maxRecDepth 100000 in
theorem list_some {ib eb : Nat} {m : List (ByteArray × Int)} (hc : w.cell? ⟨ib, 8, none⟩ = some (.map (some eb))) (hm : MapAt keyStr (Value.int .i64) w eb m) (hn : (akeys m).Nodup) (hl : m.length ≤ 1000000000) (hk : ∀ p ∈ m, p.1.size ≤ maxLen) (hne : m ≠ []) :
    Calls Tryz.prog 117 #[.pointer (some ⟨ib, 0, none⟩)] w fun e w' => ∃ v, e = .returned v ∧ w'.ownsRow w.heap.size 177 2 v m.length ((keysOf m).flatMap (entOf m)) ∧ Below w.heap.size w w' := by
  obtain ⟨iN, hiN, hzN0, hzN1, hzN2⟩ := info_parts infoNamed
  obtain ⟨D0, hown, hperm, hsize⟩ := own_of_map (H := Unit) hm hn (by unfold maxLen; omega) hk
  have HC := Lib.hid hc
  have HM := Lib.hid hm
  have HL := Lib.hid hl
  have HOWN := Lib.hid hown
  have HPERM := Lib.hid hperm
  have HSIZE := Lib.hid hsize
  have HNE := Lib.hid hne
  clear hown hperm hsize hm hn hl hk hne
  go_enter Tryz.func117, Tryz.ntmps117
  go_wp2_with fail
  refine (callsIn_wide.1 (Tryz.maps_Keys_17 _ _)).mono ?_
  rintro e3 w3 ⟨rfl, rfl⟩
  go_wp2_with fail
  refine (callsIn_wide.1 (Tryz.slices_Sorted_keys_16_17 eb _ D0 _ w HOWN.out (by rw [HSIZE.out]; have := HL.out; unfold maxLen; omega) (by rw [HSIZE.out]; have := HL.out; omega))).mono ?_
  rintro e4 w4 ⟨v, ss, rfl, hS, hrow, hnil, hb⟩
  have hlen : ss.length = m.length := by have := (hS.trans HPERM.out).length_eq; simpa using this
  have hks : (ss.mergeSort (fun x y => decide (x ≤ y))).map Go.Proofs.encStr = (keysOf m).map Value.string := by
    have e1 : ss.mergeSort (fun x y => decide (x ≤ y)) = (m.map fun p => p.1.data.toList).mergeSort (fun x y => decide (x ≤ y)) := Go.mergeSort_of_perm (hS.trans HPERM.out)
    rw [e1]
    unfold keysOf
    rw [List.map_map]
    rfl
  rw [hks, hlen] at hrow
  obtain ⟨rb, rc, rfl⟩ : ∃ rb rc, v = .slice (some ⟨rb, 0, none⟩) m.length rc := by
    rcases hrow.2 with ⟨_, e⟩ | ⟨g, cap, cur, e, _⟩
    · exact absurd (List.length_eq_zero_iff.1 e) HNE.out
    · exact ⟨g, cap, e⟩
  have hB4 : Below w.heap.size w w4 := (alloc_below w _).trans (hb.mono (by simp))
  have HR4 := Lib.hid (show ∀ j s, (keysOf m)[j]? = some s → w4.cell? ⟨rb, j, none⟩ = some (.string s) from fun j s hj => by
    have := hrow.cells (g := rb) rfl j (.string s) (by rw [List.getElem?_map, hj]; rfl)
    rwa [Addr.add_lit, Nat.zero_add] at this)
  have HRL := Lib.hid (hrow.lt rb rfl).2
  have HB4 := Lib.hid hB4
  have HKL := Lib.hid (keysOf_len m)
  clear hS hrow hnil hb hlen hks hB4 hc
  go_wp2_with fail
  go_loopw [3, 13] (fun v3 v13 wr => ∃ i : Nat, v13 = .int .i64 (i : Int) ∧ Aside0 (i ≤ m.length) ∧ Aside0 (wr.ownsRow w4.heap.size 177 2 v3 i (((keysOf m).take i).flatMap (entOf m))) ∧ Aside0 (Below w4.heap.size w4 wr)) (fun v3 v13 wr => m.length - (intOf v13).toNat)
  case atStart => exact ⟨0, rfl, ⟨by omega⟩, ⟨⟨rfl, .inl ⟨rfl, rfl⟩⟩⟩, ⟨Below.refl _ _⟩⟩
  case round =>
    obtain ⟨i, rfl, HI, HO, HB5⟩ := hrel
    by_cases hlt : i < m.length
    · have q0 : decide ((i : Int) < (m.length : Int)) = true := decide_eq_true (by omega)
      have q1 : decide (i < m.length) = true := decide_eq_true hlt
      have q2 : ((i : Int) < (m.length : Int)) = True := eq_true (by omega)
      have q3 : (i < m.length) = True := eq_true hlt
      obtain ⟨s, hs⟩ : ∃ s, (keysOf m)[i]? = some s := ⟨_, List.getElem?_eq_getElem (by rw [HKL.out]; exact hlt)⟩
      have x0 : wr.cell? ⟨rb, i, none⟩ = some (.string s) := (HB5.out.cell (p := ⟨rb, i, none⟩) HRL.out).trans (HR4.out i s hs)
      have hcl := World.block_lt_of_cell? w _ HC.out
      have x8 : wr.cell? ⟨ib, 8, none⟩ = some (.map (some eb)) := (HB5.out.cell (p := ⟨ib, 8, none⟩) (Nat.lt_of_lt_of_le hcl HB4.out.size)).trans ((HB4.out.cell (p := ⟨ib, 8, none⟩) hcl).trans HC.out)
      have hM5 : MapAt keyStr (Value.int .i64) wr eb m := HM.out.of_block ((HB5.out.block _ (Nat.lt_of_lt_of_le HM.out.lt HB4.out.size)).trans (HB4.out.block _ HM.out.lt))
      have hlook := hM5.look (P := Tryz.prog) (t := 58) (kt := 9) (et := 3) Tryz.underlying58 Tryz.underlying9 (zeroInt _) s false
      obtain ⟨n, hn⟩ : ∃ n, n = (aget s m).getD 0 := ⟨_, rfl⟩
      have hval : ((aget s m).map (Value.int .i64)).getD (.int .i64 0) = .int .i64 n := by rw [hn]; cases aget s m <;> rfl
      have hlook' : (Instr.lookup 58 (.map (some eb)) (.string s) false).run Tryz.prog wr = .ok (.int .i64 n) wr := by
        rw [← hval]
        exact hlook
      have HOT := Aside0.mk (show ((keysOf m).take (i + 1)).flatMap (entOf m) = ((keysOf m).take i).flatMap (entOf m) ++ [.string s, .int .i64 n] by
        rw [List.take_add_one, hs]
        simp [entOf, hn])
      have HLT := Aside0.mk hlt
      have hwi : IntKind.i64.wrap ((i : Int) + 1) = ((i + 1 : Nat) : Int) := by rw [IntWalk.i64_in _ (by have := HL.out; omega)]; omega
      clear hlook hval hn hs hcl hM5 hlt
      go_wp2_with (at_builtin; refine wpList_append_own_at _ rfl (.tmp 17) (.tmp 26) 173 rfl w4.heap.size 177 iN _ 2 24 Tryz.underlying173 hiN hzN0 hzN1 hzN2 rfl (by decide) u3 i (((keysOf m).take i).flatMap (entOf m)) rfl (own_allocG HO.out _) ⟨wr.heap.size, 0, none⟩ 1 1 [.string s, .int .i64 n] rfl rfl (World.news_of_block (cs := #[.string s, .int .i64 n]) (t := 177) (fr := (0, 0)) (heap_alloc_new wr _)) (by simp [Value.oneCell']) (by have := HL.out; have := HLT.out; unfold maxLen; omega) (by have := HL.out; have := HLT.out; omega) (by have := HB5.out.size; simp; omega) ?_; intro v9 w9 ho9 hg9 hn9 ha9; have HO9 := Aside0.mk ho9; have HG9 := Aside0.mk hg9; clear ho9 hg9 hn9 ha9)
      exact ⟨⟨i + 1, rfl, ⟨HLT.out⟩, ⟨by rw [HOT.out]; exact HO9.out⟩, ⟨(HB5.out.alloc HB5.out.size _).grown HG9.out (by have := HB5.out.size; simp; omega) (fun k hk => (HO.out.lt k hk).1)⟩⟩, by have := HLT.out; simp [intOf]; omega⟩
    · have q0 : decide ((i : Int) < (m.length : Int)) = false := decide_eq_false (by omega)
      have q1 : decide (i < m.length) = false := decide_eq_false hlt
      have HE := Aside0.mk (show i = m.length by have := HI.out; omega)
      clear hlt
      go_wp2_with fail
      go_ret
      refine ⟨_, rfl, ?_, HB4.out.trans (HB5.out.mono HB4.out.size)⟩
      have h := HO.out
      rw [HE.out, List.take_of_length_le (by rw [HKL.out]; exact Nat.le_refl _)] at h
      exact h.mono HB4.out.size
set_option maxHeartbeats 1000000 in
theorem list_none {ib eb : Nat} (hc : w.cell? ⟨ib, 8, none⟩ = some (.map (some eb))) (hm : MapAt keyStr (Value.int .i64) w eb []) :
    Calls Tryz.prog 117 #[.pointer (some ⟨ib, 0, none⟩)] w fun e w' => e = .returned (.slice none 0 0) ∧ Below w.heap.size w w' := by
  obtain ⟨D0, hown, hperm, hsize⟩ := own_of_map (H := Unit) hm (by simp [akeys]) (by unfold maxLen; simp) (by simp)
  have HOWN := Lib.hid hown
  have HPERM := Lib.hid hperm
  have HSIZE := Lib.hid hsize
  clear hown hperm hsize hm
  go_enter Tryz.func117, Tryz.ntmps117
  go_wp2_with fail
  refine (callsIn_wide.1 (Tryz.maps_Keys_17 _ _)).mono ?_
  rintro e3 w3 ⟨rfl, rfl⟩
  go_wp2_with fail
  refine (callsIn_wide.1 (Tryz.slices_Sorted_keys_16_17 eb _ D0 _ w HOWN.out (by rw [HSIZE.out]; unfold maxLen; simp) (by rw [HSIZE.out]; simp))).mono ?_
  rintro e4 w4 ⟨v, ss, rfl, hS, hrow, hnil, hb⟩
  have hss : ss = [] := by have := (hS.trans HPERM.out).length_eq; simpa using this
  subst hss
  obtain rfl := hnil.2 rfl
  have HB := Lib.hid hb
  clear hS hrow hnil hb
  go_wp2
  refine wp_loop_rounds 1 ?_
  rw [rounds_succ]
  go_wp2
  go_ret
  exact ⟨rfl, (alloc_below w _).trans (HB.out.mono (by simp))⟩
/-- **'(*inode).list' of a directory, whatever entries it has.** -/
theorem list_calls {ib eb : Nat} {m : List (ByteArray × Int)} (hc : w.cell? ⟨ib, 8, none⟩ = some (.map (some eb))) (hm : MapAt keyStr (Value.int .i64) w eb m) (hn : (akeys m).Nodup) (hl : m.length ≤ 1000000000) (hk : ∀ p ∈ m, p.1.size ≤ maxLen) :
    Calls Tryz.prog 117 #[.pointer (some ⟨ib, 0, none⟩)] w fun e w' => ∃ v, e = .returned v ∧ w'.ownsRow w.heap.size 177 2 v m.length ((keysOf m).flatMap (entOf m)) ∧ Below w.heap.size w w' := by
  by_cases he : m = []
  · subst he
    refine (list_none hc hm).mono ?_
    rintro e w' ⟨rfl, hb⟩
    exact ⟨_, rfl, ⟨by simp [keysOf], .inl ⟨rfl, rfl⟩⟩, hb⟩
  · exact list_some hc hm hn hl hk he
end
end Go.Proofs.YtcjahipcfcghlaaGreatV

/- vfs: List, whatever file system. -/
namespace Go.Proofs.YtcjahipcfcghlaaGreatV
open Go.RowKit
set_option linter.unusedVariables false
set_option linter.unusedSimpArgs false
section
variable {w : World} {B f : Nat} {own : Nat → Option Int} {Ph : Phys} {S : FSt}
theorem List_dir (h : FSRep w B f own Ph S) {dir : Int} {d : Ino} (hg : aget dir S.inodes = some d) (hk : d.kind = 1) (hn : (akeys d.ents).Nodup) (hl : d.ents.length ≤ 1000000000) (hz : ∀ p ∈ d.ents, p.1.size ≤ maxLen) :
    Calls Tryz.prog 103 #[.pointer (some ⟨f, 0, none⟩), .int .i64 dir] w fun e w' => ∃ v, e = .returned (.tuple #[v, .int .i64 0]) ∧ w'.ownsRow w.heap.size 177 2 v d.ents.length ((keysOf d.ents).flatMap (entOf d.ents)) ∧ Below w.heap.size w w' := by
  have hd : dirsS S [dir] = 0 := by
    have ht : thereS S [dir] = 0 := by simp [thereS, hg]
    unfold dirsS
    rw [if_pos ht]
    simp [dirsOnly, hg, hk]
  have HR := Lib.hid h
  have HD := Lib.hid hd
  have Hg := Lib.hid hg
  have HN := Lib.hid hn
  have HL := Lib.hid hl
  have HZ := Lib.hid hz
  have HK := Lib.hid hk
  clear h hd hg hn hl hz hk
  go_enter Tryz.func103, Tryz.ntmps103
  go_wp2_with fail
  refine (dirs_one' HR.out _ _ _ rfl).mono ?_
  rintro e w1 ⟨rfl, rfl⟩
  rw [HD.out]
  have h1 := HR.out.of_below (alloc_below w (.cells #[.int .i64 dir] 3))
  have c4 := h1.c.2.2.2.2.1
  have hl := look_some h1 Hg.out
  have hI := h1.inos dir d Hg.out
  obtain ⟨eb, he, _, hm⟩ := hI.dir HK.out
  have k8 := hI.c.2.2.2.2.2.2.2.2.1
  rw [he] at k8
  have HLC := Lib.hid (list_calls k8 hm HN.out HL.out HZ.out)
  clear h1 hI hm k8 he
  go_wp2_with fail
  refine HLC.out.mono ?_
  rintro e w2 ⟨v, rfl, ho, hb⟩
  have HO := Lib.hid ho
  have HB := Lib.hid hb
  clear ho hb
  go_wp2
  go_ret2
  exact ⟨v, rfl, HO.out.mono (by simp), (alloc_below w _).trans (HB.out.mono (by simp))⟩
end
end Go.Proofs.YtcjahipcfcghlaaGreatV

/- walk: kind, isTop, Find of no names; path: wrong, Join of one name. -/
namespace Go.Proofs.YtcjahipcfcghlaaGreatV
open Go.RowKit
set_option linter.unusedVariables false
set_option linter.unusedSimpArgs false
section
variable {w : World} {B f : Nat} {own : Nat → Option Int} {Ph : Phys} {S : FSt}
theorem kind_calls (h : FSRep w B f own Ph S) (I : Inv S) (n : Int) :
    Calls Tryz.prog 102 #[.pointer (some ⟨f, 0, none⟩), .int .i64 n] w fun e w' => e = .returned (.int .i64 (statS S n).1.kind) ∧ Below w.heap.size w w' := by
  have HS := Lib.hid (Stat_calls h I n)
  clear h I
  unfold statV at HS
  go_enter Tryz.func102, Tryz.ntmps102
  go_wp2_with fail
  refine HS.out.mono ?_
  rintro e w1 ⟨rfl, hb⟩
  have HB := Lib.hid hb
  clear hb HS
  go_wp2
  go_ret
  exact ⟨rfl, HB.out.alloc HB.out.size _⟩
theorem isTop_dir (h : FSRep w B f own Ph S) (I : Inv S) {n : Int} (hk : (statS S n).1.kind = 1) :
    Calls Tryz.prog 76 #[.pointer (some ⟨f, 0, none⟩), .int .i64 n] w fun e w' => e = .returned (.int .i64 0) ∧ Below w.heap.size w w' := by
  have HS := kind_calls h I n
  rw [hk] at HS
  have HS := Lib.hid HS
  clear h I hk
  go_enter Tryz.func76, Tryz.ntmps76
  go_wp2_with fail
  refine HS.out.mono ?_
  rintro e w1 ⟨rfl, hb⟩
  go_wp2
  go_ret
  exact ⟨rfl, hb⟩
theorem Find_top (h : FSRep w B f own Ph S) (I : Inv S) {n : Int} (hk : (statS S n).1.kind = 1) :
    Calls Tryz.prog 52 #[.pointer (some ⟨f, 0, none⟩), .int .i64 n, .slice none 0 0] w fun e w' => e = .returned (.tuple #[.int .i64 n, .int .i64 0, .int .i64 0]) ∧ Below w.heap.size w w' := by
  have HS := Lib.hid (isTop_dir h I hk)
  clear h I hk
  go_enter Tryz.func52, Tryz.ntmps52
  go_wp2_with fail
  refine HS.out.mono ?_
  rintro e w1 ⟨rfl, hb⟩
  have HB := Lib.hid hb
  clear hb
  go_wp2
  refine wp_loop_rounds 1 ?_
  rw [rounds_succ]
  go_wp2
  exact bodyPost_ret (v := .tuple #[.int .i64 n, .int .i64 0, .int .i64 0]) (by simp [results, Tryz.results52, go_sem]) rfl ⟨rfl, HB.out⟩
end
end Go.Proofs.YtcjahipcfcghlaaGreatV

/- path: wrong and Join of one name of one letter. -/
namespace Go.Proofs.YtcjahipcfcghlaaGreatV
open Go.RowKit
set_option linter.unusedVariables false
set_option linter.unusedSimpArgs false
section
variable {w : World}
theorem wrong_ab (c : UInt8) (hc : c = 97 ∨ c = 98) : Calls Tryz.prog 79 #[.string ⟨#[c]⟩] w fun e w' => e = .returned (.int .i64 0) ∧ w' = w := by
  rcases hc with rfl | rfl
  all_goals
    go_enter Tryz.func79, Tryz.ntmps79
    go_wp2_with fail
    refine (Tryz.strings_IndexByte _ 0 w).mono ?_
    rintro e w1 ⟨rfl, rfl⟩
    have e1 : Lib.indexByte (⟨#[97]⟩ : ByteArray).data.toList (0 : Int).toNat.toUInt8 = -1 := by decide
    have e2 : Lib.indexByte (⟨#[98]⟩ : ByteArray).data.toList (0 : Int).toNat.toUInt8 = -1 := by decide
    first | rw [e1] | rw [e2]
    clear e1 e2
    go_wp2_with fail
    refine (Tryz.strings_Contains_one _ 47 _).mono ?_
    rintro e w1 ⟨rfl, rfl⟩
    have e1 : decide (0 ≤ Lib.indexByte (⟨#[97]⟩ : ByteArray).data.toList 47) = false := by decide
    have e2 : decide (0 ≤ Lib.indexByte (⟨#[98]⟩ : ByteArray).data.toList 47) = false := by decide
    first | rw [e1] | rw [e2]
    clear e1 e2
    go_wp2
    go_ret
    exact ⟨rfl, rfl⟩
theorem sJoin_one {p c : Nat} {s : ByteArray} (hc : w.cell? ⟨p, 0, none⟩ = some (.string s)) : Calls Tryz.prog 80 #[.slice (some ⟨p, 0, none⟩) 1 c, .string ⟨#[47]⟩] w fun e w' => e = .returned (.string s) ∧ Below w.heap.size w w' := by
  go_enter Tryz.func80, Tryz.ntmps80
  go_wp2
  go_ret
  exact ⟨rfl, Below.refl _ _⟩
theorem Join_ab {p c : Nat} (x : UInt8) (hx : x = 97 ∨ x = 98) (hc : w.cell? ⟨p, 0, none⟩ = some (.string ⟨#[x]⟩)) : Calls Tryz.prog 54 #[.slice (some ⟨p, 0, none⟩) 1 c] w fun e w' => e = .returned (.tuple #[.string ⟨#[x]⟩, .int .i64 0]) ∧ Below w.heap.size w w' := by
  have HW := Lib.hid (wrong_ab (w := w) x hx)
  have HJ := Lib.hid (sJoin_one (c := c) hc)
  go_enter Tryz.func54, Tryz.ntmps54
  go_wp2_with fail
  refine wp_loop_rounds 2 ?_
  rw [rounds_succ]
  go_wp2_with fail
  refine HW.out.mono ?_
  rintro e w1 ⟨rfl, rfl⟩
  go_wp2_with fail
  rw [rounds_succ]
  go_wp2_with fail
  refine HJ.out.mono ?_
  rintro e w2 ⟨rfl, hb⟩
  have HB := Lib.hid hb
  clear hb
  go_wp2
  go_ret2
  exact ⟨rfl, HB.out⟩
end
end Go.Proofs.YtcjahipcfcghlaaGreatV
