/- VfsBytes: the walk. -/
import Derived.Test.YtighnmfeejdhoaaVLaw0
namespace Go.Proofs.YtighnmfeejdhoaaV
open Go.RowKit
set_option linter.unusedVariables false
set_option linter.unusedSimpArgs false
set_option maxHeartbeats 4000000 in
set_option maxRecDepth 100000 in
theorem VfsBytes_arg (w0 : World) (pd pb : Option Addr) (data b : List Int) (cd cb : Nat) (at_ size : Int) (hd : Came w0 pd data) (hb : Came w0 pb b) (hl : data.length + b.length ≤ 1048576) (ha : at_ < 0 ∨ at_ > 4194304 ∨ (b.length : Int) > 4194304 - at_) :
    Calls Try.prog 3 #[.slice pd data.length cd, .int .i64 at_, .slice pb b.length cb, .int .i64 size] w0 fun e w' => e = .returned (.bool true) ∧ Below w0.heap.size w0 w' := by
  have HD := Lib.hid hd
  have HBy := Lib.hid hb
  have HL := Lib.hid hl
  clear hd hb hl
  have HA := Lib.hid ha
  clear ha
  go_enter Try.func3, Try.ntmps3
  go_wp2_with fail
  refine (lives_calls w0).mono ?_
  rintro e w1 ⟨rfl, r1⟩
  have L1 := Lib.hid r1
  clear r1
  go_wp2_with fail
  refine (New_calls w1 2 4194304 (by decide) (by decide)).mono ?_
  rintro e w2 ⟨rfl, r1, r2⟩
  have H2 := Lib.hid r1
  have F2 := Lib.hid r2
  clear r1 r2
  go_wp2_with fail
  refine (Create_calls (B := w1.heap.size) (S := stNew 2 4194304) H2.out F2.out.size q0 1 fName zeroMt).mono ?_
  rintro e w3 ⟨rfl, own3, Ph3, r1, r2⟩
  rw [q1] at r1 ⊢
  have H3 : Hid (FSRep w3 w1.heap.size w1.heap.size own3 Ph3 (Fs [] [act1])) := Lib.hid r1
  have B3 : Hid (Below w1.heap.size w1 w3) := Lib.hid ⟨(F2.out.trans r2).os, (F2.out.trans r2).tape, (F2.out.trans r2).output, (F2.out.trans r2).size, fun b hb => ((F2.out.trans r2).block b hb rfl).1⟩
  clear r1 r2 H2 F2
  obtain ⟨v4, w4, hrun4, hown4, hbl4⟩ := lay_copy w3 ((HD.out.below L1.out).below B3.out) cd (by have := HL.out; omega)
  have K4 := Lib.hid (Both.first rfl H3.out B3.out hbl4 hown4)
  obtain ⟨p4, c4, rfl⟩ := owns_slice hown4
  clear hown4 hbl4 H3
  have R4 := Lib.hid (Ran.mk hrun4)
  clear hrun4
  go_wp2_with (at_builtin; refine wpList_append_ran rfl _ _ _ rfl _ _ _ rfl rfl R4.out ?_)
  refine (Write_calls K4.out.rep K4.out.size (inv_fs (by decide) (by decide)) 2 0 p4 data c4 (K4.out.src rfl)).mono ?_
  have hw5 := write_fs (a := 0) (d := []) (b := data) (tr := [act1]) (by have := HL.out; omega) (by decide)
  rintro e w5 ⟨rfl, own5, Ph5, r1, r2⟩
  have r1 : FSRep w5 w1.heap.size w1.heap.size own5 Ph5 (writeS (Fs [] [act1]) 2 ((0 : Nat) : Int) data).2 := r1
  rw [hw5] at r1
  have hw0 : wrote [] 0 data = data := wrote_first data
  rw [hw0] at r1 hw5
  dsimp only at r1
  have hfst : (writeS (Fs [] [act1]) 2 0 data).1 = 0 := congrArg Prod.fst hw5
  rw [hfst]
  have K5 := Lib.hid (K4.out.upd r1 r2)
  clear r1 r2 hw5 hw0 hfst K4 R4
  obtain ⟨v6, w6, hrun6, hown6, hbl6⟩ := lay_copy w5 ((HD.out.below L1.out).below (by have := K5.out.below; exact this)) cd (by have := HL.out; omega)
  have K6 := Lib.hid (Both.first rfl K5.out.rep K5.out.below hbl6 hown6)
  obtain ⟨p6, c6, rfl⟩ := owns_slice hown6
  have R6 := Lib.hid (Ran.mk hrun6)
  clear hown6 hbl6 hrun6
  obtain ⟨v7, w7, hrun7, hown7, hbl7⟩ := lay_copy w6 ((HBy.out.below L1.out).below (by have := K6.out.below; exact this)) cb (by have := HL.out; omega)
  have J7 := Lib.hid (Both.first rfl K6.out.rep K6.out.below hbl7 hown7)
  have K7 := Lib.hid (K6.out.step hbl7)
  obtain ⟨p7, c7, rfl⟩ := owns_slice hown7
  have R7 := Lib.hid (Ran.mk hrun7)
  clear hown7 hbl7 hrun7 K5 K6
  go_wp2_with (at_builtin; first | (refine wpList_append_ran rfl _ _ _ rfl _ _ _ rfl rfl R6.out ?_) | (refine wpList_append_ran rfl _ _ _ rfl _ _ _ rfl rfl R7.out ?_))
  refine (Write_calls K7.out.rep K7.out.size (inv_fs (by have := HL.out; omega) (by simp)) 2 _ p7 b c7 (J7.out.src rfl)).mono ?_
  rintro e w8 ⟨rfl, own8, Ph8, r1, r2⟩
  have H5 : Hid (data.length ≤ 4194304) := Lib.hid (by have := HL.out; omega)
  rw [write_no HA.out] at r1 ⊢
  dsimp only at r1
  have K8 := Lib.hid (K7.out.upd r1 r2)
  clear r1 r2 J7 K7 R6 R7
  by_cases hz : size < 0 ∨ size > 4194304
  · have HZ := Lib.hid hz
    clear hz
    go_wp2_with fail
    refine (Resize_calls K8.out.rep K8.out.size (inv_fs H5.out (by simp)) 2 size).mono ?_
    rintro e w20 ⟨rfl, own20, Ph20, r1, r2⟩
    rw [resize_no HZ.out] at r1 ⊢
    dsimp only at r1
    have K20 := Lib.hid (K8.out.upd r1 r2)
    clear r1 r2
    go_wp2_with fail
    refine (Read_calls K20.out.rep (inv_fs H5.out (by simp)) 2 0 4194304).mono ?_
    rintro e w21 ⟨gv, rfl, g1, g2⟩
    rw [read_fs H5.out] at g1 ⊢
    have g3 : World.ownsRow w21 _ 5 1 gv (data).length (byteCells (data)) := g1
    obtain ⟨ga, gc, rfl⟩ := owns_slice g3
    have K21 := Lib.hid (K20.out.step g2)
    have G1 := Lib.hid g3
    clear g1 g2 g3
    go_wp2_with fail
    refine (Stat_calls K21.out.rep (inv_fs H5.out (by simp)) 2).mono ?_
    rintro e w22 ⟨rfl, s1⟩
    rw [(stat_fs _ _).1, (stat_fs _ _).2]
    have K22 := Lib.hid (K21.out.step s1)
    have hc1 : ∀ o, (convert 22 9 (.slice ga (data).length gc)).run Try.prog (w22.alloc o) = .ok (.string (strOf (data))) (w22.alloc o) := fun o => conv_row (owns_below (owns_below G1.out s1) (alloc_below _ o))
    have hc2 : ∀ o, (convert 22 9 (.slice p6 (data).length c6)).run Try.prog (w22.alloc o) = .ok (.string (strOf (data))) (w22.alloc o) := fun o => conv_row (K22.out.step (alloc_below _ o)).row
    clear s1
    go_wp2
    go_ret
    exact ⟨rfl, L1.out.trans ((K22.out.below.trans ((alloc_below _ _).mono K22.out.size)).mono L1.out.size)⟩
  · obtain ⟨k, rfl⟩ : ∃ k : Nat, size = k := ⟨size.toNat, by omega⟩
    have HZ := Lib.hid hz
    have HK := Lib.hid (show k ≤ 4194304 by omega)
    clear hz
    go_wp2_with fail
    refine (Resize_calls K8.out.rep K8.out.size (inv_fs H5.out (by simp)) 2 k).mono ?_
    rintro e w20 ⟨rfl, own20, Ph20, r1, r2⟩
    rw [resize_fs HZ.out] at r1 ⊢
    dsimp only at r1
    have K20 := Lib.hid (K8.out.upd r1 r2)
    clear r1 r2
    go_wp2
    go_loopw [13] (fun v wr => ∃ j : Nat, (j = 0 ∨ (data).length + j ≤ k) ∧ Hid (Both w1 wr w1.heap.size w1.heap.size own20 Ph20 (Fs (resized (data) k) ([act1] ++ [⟨5, 0, noName, 2, 0, noName, ((0 : Nat) : Int), data.length⟩] ++ [⟨6, 0, noName, 2, 0, noName, 0, k⟩])) v ((data) ++ List.replicate j 0))) (fun v _ => k - lenV v)
    case atStart => exact ⟨0, .inl rfl, Lib.hid (by simpa using K20.out)⟩
    case round =>
      obtain ⟨j, hj, KJ⟩ := hrel
      obtain ⟨vp, vc, hv⟩ := owns_slice KJ.out.row
      have hlen : ((data) ++ List.replicate j 0).length = (data).length + j := by simp
      rw [hlen] at hv
      subst hv
      by_cases hlt : (data).length + j < k
      · obtain ⟨v', w', hrun, hK'⟩ := KJ.out.push 0 (by rw [hlen]; have := HK.out; omega)
        obtain ⟨vp', vc', hv'⟩ := owns_slice hK'.row
        rw [List.length_append, hlen] at hv'
        subst hv'
        have RN := Lib.hid (Ran.mk hrun)
        have KN := Lib.hid hK'
        clear hrun hK' hlen
        go_wp2_with (at_builtin; refine wpList_append_ran rfl _ _ _ rfl _ _ _ rfl rfl RN.out ?_)
        go_roundw
        case rel => exact ⟨j + 1, .inr (by omega), Lib.hid (by rw [List.replicate_succ', ← List.append_assoc]; exact KN.out)⟩
        case measure => simp [lenV]; omega
      · have hcut := (show Both w1 _ _ _ _ _ _ (.slice vp ((data) ++ List.replicate j 0).length vc) _ by rw [hlen]; exact KJ.out)
        have hcap := hcut.cap
        rw [hlen] at hcap
        have hc3 := hcut.cut (k := k) (by rw [hlen]; omega)
        rw [pad_take (data) j k (by omega) (by omega)] at hc3
        have KC := Lib.hid hc3
        have HD3 : Hid ((resized (data) k).length ≤ 4194304) := Lib.hid (by rw [resized_len]; exact HK.out)
        have hc4 : (k : Int) ≤ (vc : Int) := by omega
        clear hcut hc3 hlen
        go_wp2_with fail
        refine (Read_calls KC.out.rep (inv_fs HD3.out (by simp)) 2 0 4194304).mono ?_
        rintro e w21 ⟨gv, rfl, g1, g2⟩
        rw [read_fs HD3.out] at g1 ⊢
        have g3 : World.ownsRow w21 _ 5 1 gv (resized (data) k).length (byteCells (resized (data) k)) := g1
        obtain ⟨ga, gc, rfl⟩ := owns_slice g3
        have K21 := Lib.hid (KC.out.step g2)
        have G1 := Lib.hid g3
        clear g1 g2 g3
        go_wp2_with fail
        refine (Stat_calls K21.out.rep (inv_fs HD3.out (by simp)) 2).mono ?_
        rintro e w22 ⟨rfl, s1⟩
        rw [(stat_fs _ _).1, (stat_fs _ _).2]
        have K22 := Lib.hid (K21.out.step s1)
        have hc1 : ∀ o, (convert 22 9 (.slice ga (resized (data) k).length gc)).run Try.prog (w22.alloc o) = .ok (.string (strOf (resized (data) k))) (w22.alloc o) := fun o => conv_row (owns_below (owns_below G1.out s1) (alloc_below _ o))
        have hc2 : ∀ o, (convert 22 9 (.slice vp k vc)).run Try.prog (w22.alloc o) = .ok (.string (strOf (resized (data) k))) (w22.alloc o) := fun o => conv_row (K22.out.step (alloc_below _ o)).row
        rw [resized_len] at hc1 ⊢
        clear s1
        go_wp2
        go_ret
        exact ⟨rfl, L1.out.trans ((K22.out.below.trans ((alloc_below _ _).mono K22.out.size)).mono L1.out.size)⟩
end Go.Proofs.YtighnmfeejdhoaaV
