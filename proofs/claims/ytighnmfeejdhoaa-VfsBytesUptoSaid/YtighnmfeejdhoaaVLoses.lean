/- vfs: loses, takes, Unlink, Rmdir. -/
import Derived.Test.YtighnmfeejdhoaaVReadB
namespace Go.Proofs.YtighnmfeejdhoaaV
open Go.RowKit
set_option linter.unusedVariables false
set_option linter.unusedSimpArgs false
section
variable {w : World} {B f : Nat} {own : Nat → Option Int} {Ph : Phys} {S : FSt}
theorem losesS_some {dir : Int} {name : ByteArray} {d i : Ino} {n : Int} (hd : aget dir S.inodes = some d) (hg : aget name d.ents = some n) (hi : aget n S.inodes = some i) (hne : dir ≠ n) :
    losesS S dir name = if i.links - 1 = 0 then { S with used := S.used - i.data.length, inodes := adel n (aset n { i with links := i.links - 1 } (aset dir { d with ents := adel name d.ents } S.inodes)) }
      else { S with inodes := aset n { i with links := i.links - 1 } (aset dir { d with ents := adel name d.ents } S.inodes) } := by
  unfold losesS
  rw [hd]
  simp only
  rw [hg]
  simp only
  rw [aget_aset, if_neg hne, hi]
set_option maxHeartbeats 1000000 in
theorem loses_calls (h : FSRep w B f own Ph S) (I : Inv S) (dir : Int) (name : ByteArray) (d i : Ino) (n : Int) (hd : aget dir S.inodes = some d) (hk : d.kind = 1) (hg : aget name d.ents = some n) (hi : aget n S.inodes = some i) (hne : dir ≠ n) :
    Calls Try.prog 29 #[.pointer (some ⟨f, 0, none⟩), .int .i64 dir, .string name] w fun e w' => e = .returned (.tuple #[]) ∧ Upd w B f own (losesS S dir name) w' := by
  rw [losesS_some hd hg hi hne]
  have c4 := h.c.2.2.2.2.1
  have hl := look_some h hd
  have hD := h.inos dir d hd
  obtain ⟨eb, he, hoe, hMe⟩ := hD.dir hk
  have k8 := hD.c.2.2.2.2.2.2.2.2.1
  rw [he] at k8
  have hle := (look_ent_some hMe hg).2
  obtain ⟨w1, hdrop, hM1, hT1⟩ := drop_ent hMe name 0
  have h1 := h.ents_set hd hk he _ hT1 hM1
  have hi1 : aget n (setIno S dir { d with ents := adel name d.ents }).inodes = some i := by
    show aget n (aset _ _ _) = _
    rw [aget_aset, if_neg hne]
    exact hi
  have c41 : _ = some (Value.map (some Ph.mb)) := h1.c.2.2.2.2.1
  have hl1 : (Instr.lookup 46 (.map (some Ph.mb)) (.int .i64 n) false).run Try.prog w1 = .ok (.pointer (some ⟨Ph.ib n, 0, none⟩)) w1 := look_some h1 hi1
  have hI1 := h1.inos n i hi1
  have k91 := hI1.c.2.2.2.2.2.2.2.2.2.1
  have g91 := hI1.fz 9
  have hif : Ph.ib n ≠ f := h1.ino_ne hi1 hI1.ok
  have e9 : (Phys.at Ph dir (Ph.dv dir) (Ph.ev dir)).ib n = Ph.ib n := rfl
  have h2 := h1.cell_set (i' := { i with links := i.links - 1 }) hi1 rfl rfl rfl (Nat.le_of_eq (Turned.setCell _ (Ph.ib n) 9 (.int .i64 (i.links - 1))).size.symm) (fun b _ hb => (Turned.setCell _ (Ph.ib n) 9 (.int .i64 (i.links - 1))).block b hb) (heap_setCell_at hI1.cells 9 _)
  have hi2 := aget_setIno (setIno S dir { d with ents := adel name d.ents }) n { i with links := i.links - 1 }
  have hI2 := h2.inos n _ hi2
  have hF2 : Frame w (w1.setCell ⟨Ph.ib n, 9, none⟩ (.int .i64 (i.links - 1))) own own := (Frame.of_turned hT1 (by rw [hoe]; simp)).trans (Frame.of_turned (Turned.setCell w1 (Ph.ib n) 9 _) (by have := hI1.ok; rw [e9] at this; rw [this]; simp))
  have hb := I.ino n i hi
  have hus := I.used
  have hby := I.bytes
  have hw1 : IntKind.i64.wrap (i.links - 1) = i.links - 1 := wrap_small (by omega) (by omega)
  have hw2 : IntKind.i64.wrap (S.used - (i.data.length : Int)) = S.used - (i.data.length : Int) := wrap_small (by omega) (by omega)
  have k92 := hI2.c.2.2.2.2.2.2.2.2.2.1
  have k62 := hI2.c.2.2.2.2.2.2.1
  obtain ⟨da, dc, hdv, _, _⟩ := row_slice hI2.data
  rw [hdv] at k62
  have c32 : _ = some (Value.int .i64 S.used) := h2.c.2.2.2.1
  have f32 := h2.fz 3
  have H2 := Lib.hid h2
  have HF2 := Lib.hid hF2
  have hibe : (Phys.at (Phys.at Ph dir (Ph.dv dir) (Ph.ev dir)) n ((Phys.at Ph dir (Ph.dv dir) (Ph.ev dir)).dv n) ((Phys.at Ph dir (Ph.dv dir) (Ph.ev dir)).ev n)).ib n = Ph.ib n := rfl
  rw [hibe] at k92 k62
  rw [e9] at k91 g91
  have hlen0 : i.data.length = ({ i with links := i.links - 1 } : Ino).data.length := rfl
  rw [← hlen0] at k62
  clear hk h hD he hoe hMe hd hg hi I hM1 hT1 h1 hi1 hI1 h2 hi2 hI2 hF2 hdv hb hus hby e9 hibe hlen0
  generalize hL : i.links - 1 = L at *
  have hw1' : IntKind.i64.wrap (i.links - 1) = L := by rw [hL]; exact hw1
  clear hL hw1
  by_cases hz : L = 0
  · rw [if_pos hz]
    subst hz
    go_enter Try.func29, Try.ntmps29
    go_wp2_with fail
    generalize hq : w1.setCell ⟨Ph.ib n, 9, none⟩ (.int .i64 0) = w2 at *
    have h4 := (H2.out.used_set (S.used - (i.data.length : Int))).drewN 1
    obtain ⟨w4, hdrop4, hM4, hT4⟩ := drop_ino (mb := Ph.mb) h4.map n 0
    have c42 : _ = some (Value.map (some Ph.mb)) := H2.out.c.2.2.2.2.1
    have H6 := Lib.hid (h4.ino_drop n hT4 hM4)
    have HT4 := Lib.hid hT4
    have HT3 := Lib.hid (Turned.setCell w2 f 3 (.int .i64 (S.used - (i.data.length : Int))))
    have Hof := Lib.hid (show own f ≠ none by rw [H2.out.okf]; simp)
    have Hom := Lib.hid (show own Ph.mb ≠ none by have := H2.out.okm; rw [show (Phys.at (Phys.at Ph dir (Ph.dv dir) (Ph.ev dir)) n ((Phys.at Ph dir (Ph.dv dir) (Ph.ev dir)).dv n) ((Phys.at Ph dir (Ph.dv dir) (Ph.ev dir)).ev n)).mb = Ph.mb from rfl] at this; rw [this]; simp)
    have ed : (w2.setCell ⟨f, 3, none⟩ (.int .i64 (S.used - (i.data.length : Int)))).drewN 1 = (w2.setCell ⟨f, 3, none⟩ (.int .i64 (S.used - (i.data.length : Int)))).drew := rfl
    rw [ed] at hdrop4
    clear h4 hM4 hT4 ed
    go_region
    go_wp2
    go_end0
    exact ⟨rfl, Upd.after HF2.out (Upd.after (Frame.of_turned HT3.out Hof.out) (Upd.after (Frame.of_below (below_drewN _ _ 1)) (Upd.after (Frame.of_turned HT4.out Hom.out) ⟨_, _, H6.out, Frame.refl _ _⟩)))⟩
  · rw [if_neg hz]
    go_enter Try.func29, Try.ntmps29
    go_wp2_with fail
    go_end0
    exact ⟨rfl, _, _, H2.out, HF2.out⟩
end
end Go.Proofs.YtighnmfeejdhoaaV
