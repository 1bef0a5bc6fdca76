-- WRITTEN BY wip/xprint.py, a program of the proving session round the kit's print.py; Lean checks it.
import Derived.Test.YtpaghdfnhlpngaaDoorPPaxMergedx0
namespace Go.Proofs.YtpaghdfnhlpngaaDoor.PPaxMerged
open Go.Proofs.YtpaghdfnhlpngaaDoorX
open Go.RowKit Go.Proofs.YtpaghdfnhlpngaaDoorW.PrintWords Go.Proofs.YtpaghdfnhlpngaaDoorW.PrintLast Go.Proofs.YtpaghdfnhlpngaaDoorW.PrintMore
attribute [local go_sem] str_leq str_gtr max2_int min2_int max_two min_two max_three min_three max_four min_four   -- for this text's walks alone
set_option linter.unusedVariables false
set_option linter.unusedSimpArgs false

/-! ### bytes_IndexByte: function 78 -/

def bytes_IndexByte.f (l0 : List Int) (a1 : Int) : Option (Int) := some (Lib.indexByte (Lib.bytesOf l0) a1.toNat.toUInt8)
set_option maxRecDepth 100000 in
theorem bytes_IndexByte.calls (A0 : Option Addr) (c0 : Nat) (l0 : List Int) (a1 : Int) (r : Int) (w : World) (hG : Gv w) (hr0 : Kd.C (Kd.int .u8) w A0 l0.length l0) (hc0 : l0.length ≤ c0) (h : bytes_IndexByte.f l0 a1 = some r) :
    Calls Tryd.prog 78 #[.slice A0 l0.length c0, .int .u8 a1] w fun e w' => e = .returned (.int .i64 r) ∧ Drawn0 w w' := by
  obtain rfl := Option.some.inj h
  obtain ⟨hl, hm, hc⟩ := Kd.reads_of_C (d := (0 : Int)) (h1 := fun _ => rfl) hr0
  have HR : ∀ cv : Int, (Extern.BytealgIndexByte.indexByte #[.slice A0 l0.length c0, .int .u8 cv]).run Tryd.prog w = .ok (.int .i64 (Lib.indexByte (Lib.bytesOf l0) cv.toNat.toUInt8)) w := by
    intro cv
    cases A0 with
    | none =>
      have h0 : l0 = [] := by
        rcases l0 with _ | ⟨x, l⟩
        · rfl
        · obtain ⟨ad, he, _⟩ := hc (by simp)
          cases he
      subst h0
      exact Lib.run_indexByteNil w 0 c0 cv
    | some a =>
      refine Lib.run_indexByteAt w a _ c0 l0 rfl (fun i hi => ?_) cv
      obtain ⟨ad, he, hcc⟩ := hc (by omega)
      cases he
      exact hcc i hi
  clear hc hl hr0 hm
  have HG_ := Lib.hid hG
  clear hG
  go_enter Tryd.func78, Tryd.ntmps78
  go_wp2
  rw [run_callFunc_extern Tryd.func105 (by kernel_rfl) (by kernel_rfl) (by kernel_rfl) (e := Extern.BytealgIndexByte.indexByte) (by kernel_rfl), HR]
  simp only [Result.andThen]
  rw [Oper.upon_value]
  clear HR
  go_wp2
  go_ret
  exact ⟨rfl, Drawn0.refl _⟩


/-! ### bytes_Index: function 104 -/

def bytes_Index.f (l0 : List Int) (l1 : List Int) : Option (Int) := if l1.length = 1 then some (Lib.indexByte (Lib.bytesOf l0) (rd l1 0).toNat.toUInt8) else none
set_option maxHeartbeats 2000000 in
set_option maxRecDepth 100000 in
theorem bytes_Index.calls (A0 : Option Addr) (c0 : Nat) (l0 : List Int) (A1 : Option Addr) (c1 : Nat) (l1 : List Int) (r : Int) (w : World) (hG : Gv w) (hr0 : Kd.C (Kd.int .u8) w A0 l0.length l0) (hc0 : l0.length ≤ c0) (hr1 : Kd.C (Kd.int .u8) w A1 l1.length l1) (hc1 : l1.length ≤ c1) (h : bytes_Index.f l0 l1 = some r) :
    Calls Tryd.prog 104 #[.slice A0 l0.length c0, .slice A1 l1.length c1] w fun e w' => e = .returned (.int .i64 r) ∧ Drawn0 w w' := by
  unfold bytes_Index.f at h
  split at h
  · rename_i h1
    have hcall := bytes_IndexByte.calls A0 c0 l0 (rd l1 0) r w hG hr0 hc0 h
    obtain ⟨ad, he, hcell⟩ := Kd.at_int hr1 0 (by omega) (by omega)
    subst he
    have hcell0 : w.cell? ad = some (.int .u8 (rd l1 0)) := by simpa [Addr.add] using hcell
    clear hcell hr1 hr0 h
    rw [h1]
    go_enter Tryd.func104, Tryd.ntmps104
    go_wp2_with (go_at_call 78; refine hcall.mono ?_; rintro e w' ⟨rfl, ⟨n, rfl⟩⟩)
    go_ret
    exact ⟨rfl, ⟨⟨_, rfl⟩⟩⟩
  · cases h


/-! ### bytes_Cut: function 77 -/

def bytes_Cut.f (l0 : List Int) (l1 : List Int) : Option (List Int × List Int × Bool) := if l1.length = 1 then (if 0 ≤ Lib.indexByte (Lib.bytesOf l0) (rd l1 0).toNat.toUInt8 then some (l0.take (Lib.indexByte (Lib.bytesOf l0) (rd l1 0).toNat.toUInt8).toNat, l0.drop (Lib.indexByte (Lib.bytesOf l0) (rd l1 0).toNat.toUInt8 + 1).toNat, true) else some (l0, [], false)) else none
set_option maxHeartbeats 2000000 in
set_option maxRecDepth 100000 in
theorem bytes_Cut.calls (P0_ : Nat → Prop) (A0 : Option Addr) (c0 : Nat) (l0 : List Int) (A1 : Option Addr) (c1 : Nat) (l1 : List Int) (r1 : List Int) (r2 : List Int) (r3 : Bool) (w : World) (hG : Gv w) (hs0 : Kd.V (Kd.int .u8) 5 w w.heap.size (fun k_ => P0_ k_) (.slice A0 l0.length c0) l0) (hr1 : Kd.C (Kd.int .u8) w A1 l1.length l1) (hc1 : l1.length ≤ c1) (h : bytes_Cut.f l0 l1 = some (r1, r2, r3)) :
    Calls Tryd.prog 77 #[.slice A0 l0.length c0, .slice A1 l1.length c1] w fun e w' => ∃ v0_ v1_ : Value, e = .returned (.tuple #[v0_, v1_, .bool r3]) ∧ Kd.V (Kd.int .u8) 5 w' w.heap.size (fun k_ => P0_ k_ ∨ w.heap.size ≤ k_) v0_ r1 ∧ Kd.V (Kd.int .u8) 5 w' w.heap.size (fun k_ => P0_ k_ ∨ w.heap.size ≤ k_) v1_ r2 ∧ Below w.heap.size w w' := by
  obtain ⟨_, hle, hF⟩ := Kd.V_at hs0
  have hC0 : Kd.C (Kd.int .u8) w A0 l0.length l0 := Kd.F_now hF
  unfold bytes_Cut.f at h
  split at h
  · rename_i h1
    have hidx : bytes_Index.f l0 l1 = some (Lib.indexByte (Lib.bytesOf l0) (rd l1 0).toNat.toUInt8) := by unfold bytes_Index.f; rw [if_pos h1]
    have hcall := bytes_Index.calls A0 c0 l0 A1 c1 l1 _ w hG hC0 hle hr1 hc1 hidx
    have hlt : ∀ o : Nat, Lib.indexByte (Lib.bytesOf l0) (rd l1 0).toNat.toUInt8 = o → o < l0.length := by
      intro o ho
      have := (List.getElem?_eq_some_iff.1 (Lib.indexByte_some ho).1).1
      simpa [Lib.bytesOf] using this
    generalize Lib.indexByte (Lib.bytesOf l0) (rd l1 0).toNat.toUInt8 = i at *
    clear hidx
    have hmax : l0.length ≤ 9223372036854775807 := Kd.F_max hF
    clear hs0 hr1 hC0
    rw [h1] at hcall
    rw [h1]
    have HC := Aside0.mk hcall
    have HF := Aside0.mk hF
    clear hcall hF
    by_cases h0 : 0 ≤ i
    · rw [if_pos h0] at h
      simp only [Option.some.injEq, Prod.mk.injEq] at h
      obtain ⟨rfl, rfl, rfl⟩ := h
      obtain ⟨o, rfl⟩ := Int.eq_ofNat_of_zero_le h0
      have hi : o < l0.length := hlt o rfl
      clear hlt
      obtain ⟨i0, hi0, _, hsz, _⟩ := info_parts info5
      obtain ⟨hT1, hT2, hT3⟩ := print_take_of (P := Tryd.prog) (Value.int .u8) 0 24 5 .i64 Tryd.underlying24 hi0 hsz A0 c0 l0 (o : Int) (by omega) (by omega) hle
      obtain ⟨A', hD1, hD2, hD3⟩ := print_drop_of (P := Tryd.prog) (Value.int .u8) 0 24 5 .i64 Tryd.underlying24 hi0 hsz A0 c0 l0 ((o : Int) + 1) (by omega) (by omega) hle
      have f1 : Kd.F (Kd.int .u8) w (fun k_ => P0_ k_ ∨ w.heap.size ≤ k_) A0 (l0.take (o : Int).toNat).length (l0.take (o : Int).toNat) := Kd.F_mono (Kd.F_imp HF.out (fun W' hc => Kd.C_of_reads (h1 := fun _ => rfl) (hT2 _ (Kd.reads_of_C (d := (0 : Int)) hc)))) (fun _ hk => .inl hk)
      have f2 : Kd.F (Kd.int .u8) w (fun k_ => P0_ k_ ∨ w.heap.size ≤ k_) A' (l0.drop ((o : Int) + 1).toNat).length (l0.drop ((o : Int) + 1).toNat) := Kd.F_mono (Kd.F_imp HF.out (fun W' hc => Kd.C_of_reads (h1 := fun _ => rfl) (hD2 _ (Kd.reads_of_C (d := (0 : Int)) hc)))) (fun _ hk => .inl hk)
      have F1 := Aside0.mk f1
      have F2 := Aside0.mk f2
      have G3 := Aside0.mk hT3
      have G4 := Aside0.mk hD3
      clear hT2 hD2 hT3 hD3 f1 f2 HF hi0 hsz
      have hb0 : decide ((0 : Int) ≤ (o : Int)) = true := decide_eq_true (by omega)
      have hb1 : (0 : Int) ≤ (o : Int) := by omega
      have hw1 : IntKind.i64.wrap ((o : Int) + 1) = (o : Int) + 1 := IntWalk.i64_in _ (by omega)
      go_enter Tryd.func77, Tryd.ntmps77
      go_wp2_with (go_at_call 104; refine HC.out.mono ?_; rintro e w' ⟨rfl, ⟨n, rfl⟩⟩)
      go_quiet (fail)
      go_wp2
      go_ret3
      have e1 : (l0.take (o : Int).toNat).length = min o l0.length := by simp
      have e2 : (l0.drop ((o : Int) + 1).toNat).length = l0.length - (o + 1) := by rw [List.length_drop]; omega
      have e3 : c0 - ((o : Int) + 1).toNat = c0 - (o + 1) := by omega
      refine ⟨_, _, rfl, ⟨A0, c0, ?_, G3.out, Kd.F_drewN (Kd.F_drewN F1.out _) _⟩, ⟨A', c0 - ((o : Int) + 1).toNat, ?_, G4.out, Kd.F_drewN (Kd.F_drewN F2.out _) _⟩, by repeat (first | exact Below.refl _ _ | apply pw_below_drewN | apply below_drew)⟩
      · rw [e1]; rfl
      · rw [e2, e3]; rfl
    · rw [if_neg h0] at h
      simp only [Option.some.injEq, Prod.mk.injEq] at h
      obtain ⟨rfl, rfl, rfl⟩ := h
      clear hlt
      have hb0 : decide ((0 : Int) ≤ i) = false := decide_eq_false h0
      go_enter Tryd.func77, Tryd.ntmps77
      go_wp2_with (go_at_call 104; refine HC.out.mono ?_; rintro e w' ⟨rfl, ⟨n, rfl⟩⟩)
      go_ret3
      exact ⟨_, _, rfl, Kd.V_mk hle (Kd.F_mono (Kd.F_drewN HF.out _) (fun _ hk => .inl hk)), Kd.V_nil _ _ _ _ _, by repeat (first | exact Below.refl _ _ | apply pw_below_drewN | apply below_drew)⟩
  · cases h


end Go.Proofs.YtpaghdfnhlpngaaDoor.PPaxMerged
