/- VfsBytes: the one file's state. -/
import Derived.Test.YtighnmfeejdhoaaVBoth
namespace Go.Proofs.YtighnmfeejdhoaaV
open Go.RowKit
set_option linter.unusedVariables false
set_option linter.unusedSimpArgs false
def fName : ByteArray := ⟨#[102]⟩
def fIno (d : List Int) : Ino := ⟨2, zeroMt, d, noName, [], 1, 1⟩
def Fs (d : List Int) (tr : List Act8) : FSt := ⟨2, 4194304, 3, d.length, [(1, { root0 with ents := [(fName, 2)] }), (2, fIno d)], tr⟩
theorem q0 : Inv (stNew 2 4194304) := inv_of (by decide)
def act1 : Act8 := ⟨2, 1, fName, 2, 0, noName, 0, 0⟩
theorem q1 : createS (stNew 2 4194304) 1 fName zeroMt = (2, 0, Fs [] [act1]) := rfl
theorem get_fs (d : List Int) (tr : List Act8) : aget 2 (Fs d tr).inodes = some (fIno d) := rfl
theorem set_fs (d d' : List Int) (tr : List Act8) (u : Int) (h : u = d'.length) : setIno { Fs d tr with used := u } 2 { fIno d with data := d' } = Fs d' tr := by subst h; rfl
theorem set_fs' (d d' : List Int) (tr : List Act8) (h : d'.length = d.length) : setIno (Fs d tr) 2 { fIno d with data := d' } = Fs d' tr := by
  unfold Fs setIno
  rw [h]
  rfl
theorem inv_fs {d : List Int} {tr : List Act8} (hd : d.length ≤ 4194304) (ht : tr.length ≤ 1000) : Inv (Fs d tr) := by
  have key : ∀ n i, aget n (Fs d tr).inodes = some i → (n = 1 ∧ i = { root0 with ents := [(fName, 2)] }) ∨ (n = 2 ∧ i = fIno d) := fun n i hi => by
    simp only [Fs, aget] at hi
    split at hi
    · rename_i e; cases hi; exact .inl ⟨e.symm, rfl⟩
    · split at hi
      · rename_i e; cases hi; exact .inr ⟨e.symm, rfl⟩
      · cases hi
  refine ⟨⟨by simp [Fs], by simp [Fs]⟩, ⟨by simp [Fs], by simp [Fs]⟩, ⟨by simp [Fs], by simp [Fs]⟩, ⟨by simp [Fs], by simp [Fs]; omega⟩, by simp [Fs], by simp [Fs]; omega, fun n i hi => ?_, fun n i hi e he => ?_⟩
  · rcases key n i hi with ⟨rfl, rfl⟩ | ⟨rfl, rfl⟩
    · exact ⟨by simp [root0], by simp [root0], by simp [root0], by simp [root0, noName, ByteArray.size], by simp [root0], by simp [Fs]⟩
    · exact ⟨hd, by simp [fIno], by simp [fIno], by simp [fIno, noName, ByteArray.size], by simp [fIno], by simp [Fs]⟩
  · rcases key n i hi with ⟨rfl, rfl⟩ | ⟨rfl, rfl⟩
    · simp at he
      subst he
      exact ⟨_, get_fs d tr⟩
    · simp [fIno] at he
/-- So long that n bytes fit. -/
def padTo (d : List Int) (n : Nat) : List Int := d ++ List.replicate (n - d.length) 0
def wrote (d : List Int) (a : Nat) (b : List Int) : List Int := if 0 < b.length then overlay (padTo d (a + b.length)) a b else d
theorem padTo_len (d : List Int) (n : Nat) : (padTo d n).length = max d.length n := by unfold padTo; simp; omega
theorem padTo_ge {d : List Int} {n : Nat} (h : n ≤ d.length) : padTo d n = d := by unfold padTo; rw [Nat.sub_eq_zero_of_le h]; simp
theorem wrote_len (d : List Int) (a : Nat) (b : List Int) : (wrote d a b).length = if 0 < b.length then max d.length (a + b.length) else d.length := by
  unfold wrote
  split
  · rw [overlay_len (by rw [padTo_len]; omega), padTo_len]
  · rfl
theorem write_no {d b : List Int} {tr : List Act8} {at_ : Int} (h : at_ < 0 ∨ at_ > 4194304 ∨ (b.length : Int) > 4194304 - at_) : writeS (Fs d tr) 2 at_ b = (1, Fs d tr) := writeS_arg (get_fs d tr) h
theorem write_fs {d b : List Int} {tr : List Act8} {a : Nat} (h : ¬ ((a : Int) < 0 ∨ (a : Int) > 4194304 ∨ (b.length : Int) > 4194304 - (a : Int))) (hd : d.length ≤ 4194304) :
    writeS (Fs d tr) 2 a b = (0, Fs (wrote d a b) (tr ++ [⟨5, 0, noName, 2, 0, noName, a, b.length⟩])) := by
  rw [writeS_ok (get_fs d tr) h rfl]
  by_cases hp : 0 < b.length
  · unfold wrote
    rw [if_pos hp]
    by_cases hg : (a : Int) + (b.length : Int) > (fIno d).data.length
    · have hg' : d.length < a + b.length := by have : ((fIno d).data.length : Int) = d.length := rfl; omega
      rw [if_pos ⟨hp, hg⟩]
      have hs : sizedS (Fs d tr) 2 (fIno d) ((a : Int) + (b.length : Int)) = (0, Fs (padTo d (a + b.length)) tr) := by
        rw [sizedS_ok (by show ¬ ((a : Int) + (b.length : Int) - (d.length : Int) > 4194304 - (d.length : Int)); omega)]
        have htn : ((a : Int) + (b.length : Int)).toNat = a + b.length := by omega
        have hr : resized (fIno d).data ((a : Int) + (b.length : Int)).toNat = padTo d (a + b.length) := by rw [htn]; exact resized_ge (by show d.length ≤ _; omega)
        rw [hr]
        exact congrArg _ (set_fs d _ tr _ (by rw [padTo_len]; show (d.length : Int) + ((a : Int) + (b.length : Int) - (d.length : Int)) = _; omega))
      rw [hs]
      simp only [if_true]
      have : dataSet (Fs (padTo d (a + b.length)) tr) 2 (fun d => overlay d (a : Int).toNat b) = Fs (overlay (padTo d (a + b.length)) a b) tr := by
        rw [dataSet_some (get_fs _ _)]
        exact set_fs' _ _ _ (overlay_len (by show a + b.length ≤ (padTo d (a + b.length)).length; rw [padTo_len]; omega))
      rw [this, if_pos hp]
      rfl
    · have hg' : a + b.length ≤ d.length := by have : ((fIno d).data.length : Int) = d.length := rfl; omega
      rw [if_neg (fun e => hg e.2), if_pos hp, padTo_ge hg']
      have : dataSet (Fs d tr) 2 (fun d => overlay d (a : Int).toNat b) = Fs (overlay d a b) tr := by
        rw [dataSet_some (get_fs _ _)]
        exact set_fs' _ _ _ (overlay_len hg')
      rw [this]
      first | rfl | (rw [if_pos hp]; rfl)
  · unfold wrote
    rw [if_neg (fun e => hp e.1), if_neg hp, if_neg hp]
    rfl
theorem resize_no {d : List Int} {tr : List Act8} {size : Int} (h : size < 0 ∨ size > 4194304) : resizeS (Fs d tr) 2 size = (1, Fs d tr) := resizeS_arg (get_fs d tr) h
theorem resize_fs {d : List Int} {tr : List Act8} {k : Nat} (h : ¬ ((k : Int) < 0 ∨ (k : Int) > 4194304)) : resizeS (Fs d tr) 2 k = (0, Fs (resized d k) (tr ++ [⟨6, 0, noName, 2, 0, noName, 0, k⟩])) := by
  rw [resizeS_ok (get_fs d tr) h rfl]
  have hs : sizedS (Fs d tr) 2 (fIno d) (k : Int) = (0, Fs (resized d k) tr) := by
    rw [sizedS_ok (by show ¬ ((k : Int) - (d.length : Int) > 4194304 - (d.length : Int)); omega)]
    exact congrArg _ (set_fs d _ tr _ (by show (d.length : Int) + ((k : Int) - (d.length : Int)) = ((resized d (k : Int).toNat).length : Int); rw [resized_len]; omega))
  rw [hs]
  rfl
theorem read_fs {d : List Int} {tr : List Act8} (hd : d.length ≤ 4194304) : readS (Fs d tr) 2 0 4194304 = (d, 0) := by
  unfold readS
  rw [get_fs]
  have e1 : (fIno d).data = d := rfl
  have e2 : (fIno d).kind = 2 := rfl
  simp only [e1, e2]
  rw [if_neg (by omega), if_neg (by decide)]
  split
  · rename_i h
    rw [List.eq_nil_of_length_eq_zero (by omega : d.length = 0)]
  · rw [show Int.toNat 0 = 0 from rfl, List.drop_zero, List.take_of_length_le (by omega)]
theorem stat_fs (d : List Int) (tr : List Act8) : statV (statS (Fs d tr) 2).1 = .agg #[.int .i64 2, .int .i64 2, .int .u32 0, .int .u32 0, .int .u32 0, .int .i64 0, .int .i32 0, .int .i64 1, .int .i64 d.length] ∧ (statS (Fs d tr) 2).2 = 0 := by
  refine ⟨?_, rfl⟩
  have : (statS (Fs d tr) 2).1 = ⟨2, 2, zeroMt, 1, (d.length : Int) + ((0 : Nat) : Int) + ((0 : Nat) : Int)⟩ := rfl
  rw [this]
  unfold statV zeroMt
  simp
theorem pad_take (d : List Int) (j k : Nat) (h : k ≤ d.length + j) (hj : j = 0 ∨ d.length + j = k) : (d ++ List.replicate j 0).take k = resized d k := by
  rcases hj with rfl | hj
  · rw [resized_le (by omega)]; simp
  · rw [resized_ge (by omega), List.take_of_length_le (by simp; omega)]
    congr 2
    omega
theorem pad_at (d : List Int) (j k : Nat) (h : k ≤ d.length + j) (hj : j = 0 ∨ d.length + j = k) : d ++ List.replicate j 0 = padTo d k := by
  unfold padTo
  rcases hj with rfl | hj
  · rw [Nat.sub_eq_zero_of_le (by omega)]
  · congr 2
    omega
theorem overlay_nil (d : List Int) (a : Nat) (h : a ≤ d.length) : overlay d a [] = d := by unfold overlay; simp
theorem overlay_next (d b : List Int) (a k : Nat) (z : Int) (hz : b[k]? = some z) (h : a + b.length ≤ d.length) : (overlay d a (b.take k)).set (a + k) z = overlay d a (b.take (k + 1)) := by
  have hk : k < b.length := (List.getElem?_eq_some_iff.1 hz).1
  have h1 : (b.take k).length = k := by simp; omega
  have h2 : b.take (k + 1) = b.take k ++ [z] := by rw [List.take_add_one, hz]; rfl
  have h3 : (d.take a).length = a := by simp; omega
  have h4 : d.drop (a + k) = d[a + k]'(by omega) :: d.drop (a + k + 1) := List.drop_eq_getElem_cons (by omega)
  unfold overlay
  rw [h2, List.length_append, h1, List.append_assoc, List.append_assoc, h4]
  rw [List.set_append_right _ _ (by rw [h3]; omega), h3, List.set_append_right _ _ (by rw [h1]; omega), h1]
  simp [Nat.add_assoc]
end Go.Proofs.YtighnmfeejdhoaaV
