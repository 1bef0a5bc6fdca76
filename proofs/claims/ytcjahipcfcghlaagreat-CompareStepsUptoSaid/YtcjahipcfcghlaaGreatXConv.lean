/- Words of our own beside the print's: what '[]byte(s)' makes, as a row that is only read (V). -/
import Derived.Test.YtcjahipcfcghlaaGreatWMore
import Derived.Test.YtcjahipcfcghlaaGreatWNEv
import Derived.Lib.SlBytesConst
import Derived.Lib.IndexLaws
import Derived.Lib.AppendStr
namespace Go.Proofs.YtcjahipcfcghlaaGreatX
open Go.RowKit Go.Proofs.YtcjahipcfcghlaaGreatW.PrintWords Go.Proofs.YtcjahipcfcghlaaGreatW.PrintLast Go.Proofs.YtcjahipcfcghlaaGreatW.PrintMore
namespace Kd
section
variable {P : Program} {ops : Array Oper} {rest : List Oper} {o : Oper} {a : Act} {Q : Exit → Act → World → Prop} {Kc : Act → World → Prop}
/-- What the conversion leaves: a row that is only read. -/
theorem conv_V {W : World} {base e : Nat} {ok : Nat → Prop} (s : ByteArray) (hfresh : ok W.heap.size) (hsz : s.size ≤ 9223372036854775807) :
    Kd.V (Kd.int .u8) e (Lib.bytesWorld W e s) base ok (.slice (some ⟨W.heap.size, 0, none⟩) s.size (grownCap W s.size 0 e)) (bytesOf s) := by
  refine ⟨some ⟨W.heap.size, 0, none⟩, grownCap W s.size 0 e, by rw [bytesOf_length], by rw [bytesOf_length]; exact grownCap_ge _ _ _ _, fun W' hW => ?_⟩
  have hb : W'.heap[W.heap.size]? = (Lib.bytesWorld W e s).heap[W.heap.size]? := hW _ hfresh (by rw [Lib.bytesWorld_size]; omega)
  have hr := bytes_reads W e s hsz
  rw [bytesOf_length]
  refine Kd.C_of_reads (h1 := fun _ => rfl) (d := (0 : Int)) ⟨hr.1, hr.2.1, fun hn => ?_⟩
  obtain ⟨ad, hA, hc⟩ := hr.2.2 hn
  refine ⟨ad, hA, fun j hj => ?_⟩
  cases hA
  have h2 := hc j hj
  rw [add_plain] at h2 ⊢
  simp only [World.cell?] at h2 ⊢
  rw [hb]
  exact h2
theorem conv_below {W : World} (e : Nat) (s : ByteArray) : Below W.heap.size W (Lib.bytesWorld W e s) := bytes_below (Below.refl _ _) (Nat.le_refl _) e s
/-- '[]byte(s)'. -/
theorem V_conv {w0 W : World} (base e : Nat) (hgd : o.guard = none) {N' : Tmp} (_hd : o.dst = some N') (src dst : TypeId) (x : Operand) (s : ByteArray) {u : TypeDesc} (ho : o.op = .convert src dst x) (hx : a.eval x = .string s)
    (hs : P.underlying src = some u) (hd : P.underlying dst = some (.slice e)) (he : P.underlying e = some (.int .u8)) {ok : Nat → Prop} (hfresh : ∀ k_, W.heap.size ≤ k_ → ok k_) (hsz : s.size ≤ 9223372036854775807) (HB : Below base w0 W) (hbase : base ≤ W.heap.size)
    (h : ∀ v1 w1, Kd.V (Kd.int .u8) e w1 base ok v1 (bytesOf s) → Below base w0 w1 → W.grownBy w1 none → (∃ b, v1.ownBlock = some b ∧ W.heap.size ≤ b) → wpList P ops Q rest (a.put o.dst v1) w1) : wpList P ops Q (o :: rest) a W :=
  Kd.event_run hgd (by simp [execOp, ho, hx, print_bytes src dst e hs hd he s W]) (h _ _ (conv_V s (hfresh _ (Nat.le_refl _)) hsz) (below_then HB hbase (conv_below e s)) (grown_of_below (conv_below e s) none) ⟨_, rfl, Nat.le_refl _⟩)
theorem V_conv_step {w0 W : World} (base e : Nat) (hw : Region.wanted o (yielded ops a.tmps) = true) {N' : Tmp} (_hd : o.dst = some N') (src dst : TypeId) (x : Operand) (s : ByteArray) {u : TypeDesc} (ho : o.op = .convert src dst x) (hx : a.eval x = .string s)
    (hs : P.underlying src = some u) (hd : P.underlying dst = some (.slice e)) (he : P.underlying e = some (.int .u8)) {ok : Nat → Prop} (hfresh : ∀ k_, W.heap.size ≤ k_ → ok k_) (hsz : s.size ≤ 9223372036854775807) (HB : Below base w0 W) (hbase : base ≤ W.heap.size)
    (h : ∀ v1 w1, Kd.V (Kd.int .u8) e w1 base ok v1 (bytesOf s) → Below base w0 w1 → W.grownBy w1 none → (∃ b, v1.ownBlock = some b ∧ W.heap.size ≤ b) → Kc (a.put o.dst v1) w1) : if Region.wanted o (yielded ops a.tmps) = true then Oper.wp P o a W Kc Q else Kc (a.put o.dst undef) W :=
  event_step hw (by simp [execOp, ho, hx, print_bytes src dst e hs hd he s W]) (h _ _ (conv_V s (hfresh _ (Nat.le_refl _)) hsz) (below_then HB hbase (conv_below e s)) (grown_of_below (conv_below e s) none) ⟨_, rfl, Nat.le_refl _⟩)
/-- '[]byte("..")' of a constant: the literal's row gets its mark. -/
theorem mark_V {W : World} {base e : Nat} {ok : Nat → Prop} (cs : List Int) (fr : Nat × Nat) (hfresh : ok W.heap.size) (hsz : cs.length ≤ 9223372036854775807) :
    Kd.V (Kd.int .u8) e (W.alloc (.cells (nums .u8 cs).toArray e fr)) base ok (.slice (some ⟨W.heap.size, 0, none⟩) cs.length cs.length) cs := by
  have hn : (W.alloc (.cells (nums .u8 cs).toArray e fr)).heap[W.heap.size]? = some (.cells (nums .u8 cs).toArray e fr) := heap_alloc_new W _
  refine ⟨some ⟨W.heap.size, 0, none⟩, cs.length, rfl, Nat.le_refl _, fun W' hW => ?_⟩
  have hb := hW _ hfresh (by simp)
  rw [hn] at hb
  refine Kd.C_of_reads (h1 := fun _ => rfl) (d := (0 : Int)) ⟨rfl, hsz, fun hn => ⟨_, rfl, fun j hj => ?_⟩⟩
  rw [add_plain]
  simp only [World.cell?, hb]
  simp [nums, List.getElem?_eq_getElem hj, List.getD_eq_getElem?_getD]
theorem V_mark {w0 W : World} (base e : Nat) (hgd : o.guard = none) {N' : Tmp} (_hd : o.dst = some N') (t : TypeId) (x : Operand) (cs : List Int) (C : Array Value) (hC : C = (nums .u8 cs).toArray) (g : Nat) (ho : o.op = .convert t t x) (hx : a.eval x = .slice (some ⟨g, 0, none⟩) cs.length cs.length) (hg : g = W.heap.size)
    (ht : P.underlying t = some (.slice e)) (he : P.underlying e = some (.int .u8)) {ok : Nat → Prop} (hfresh : ∀ k_, W.heap.size ≤ k_ → ok k_) (hsz : cs.length ≤ 9223372036854775807) (HB : Below base w0 W) (hbase : base ≤ W.heap.size)
    (h : ∀ v1 w1, Kd.V (Kd.int .u8) e w1 base ok v1 cs → Below base w0 w1 → W.grownBy w1 none → (∃ b, v1.ownBlock = some b ∧ W.heap.size ≤ b) → wpList P ops Q rest (a.put o.dst v1) w1) : wpList P ops Q (o :: rest) a (W.alloc (.cells C e)) := by
  subst hC; subst hg
  have hr := Lib.run_convert_bytes_const W t e (nums .u8 cs).toArray cs.length cs.length ht he
  have hrun : (execOp a.eval o).run P (W.alloc (.cells (nums .u8 cs).toArray e)) = .ok (.value (.slice (some ⟨W.heap.size, 0, none⟩) cs.length cs.length)) (W.alloc (.cells (nums .u8 cs).toArray e ((nums .u8 cs).toArray.size, (nums .u8 cs).toArray.size + 1))) := by
    simp only [execOp, ho, hx, Sem.run_bind, hr, Result.andThen, Sem.run_pure]
  exact Kd.event_run hgd hrun (h _ _ (mark_V cs _ (hfresh _ (Nat.le_refl _)) hsz) (HB.alloc hbase _) (World.grownBy_alloc W _ none) ⟨_, rfl, Nat.le_refl _⟩)
/-- 'string(b)', b a row that is only read. -/
theorem V_string {W : World} {src dst e base : Nat} {ok : Nat → Prop} {v : Value} {xs : List Int} (hs : P.underlying src = some (.slice e)) (he : P.underlying e = some (.int .u8)) (hd : P.underlying dst = some .string) {e' : Nat}
    (h : Kd.V (Kd.int .u8) e' W base ok v xs) : (convert src dst v).run P W = .ok (.string (strOfNums xs)) W := by
  obtain ⟨A, c, rfl, _, hF⟩ := h
  exact Kd.C_string hs he hd (Kd.F_now hF)
end
end Kd
section
variable {P : Program} {ops : Array Oper} {o : Oper} {a : Act} {Q : Exit → Act → World → Prop} {Kc : Act → World → Prop}
/-- A string appended to a row of bytes, in a region that draws. -/
theorem print_append_str_step {w0 W : World} (base : Nat) (hw : Region.wanted o (yielded ops a.tmps) = true) (s x : Operand) (t u e : TypeId)
    (ho : o.op = .call { callee := .builtin .append, args := #[s, x], argTypes := #[t, u] })
    (ht : P.underlying t = some (.slice e)) (hu : P.underlying u = some .string) (hinfo : (P.info? e).map (fun i => (i.zero, i.size, i.bytes)) = some (some (.int .u8 0), 1, 1))
    (v : Value) (xs : List Int) (y : ByteArray) (hs : a.eval s = v) (hx : a.eval x = .string y)
    (HO : W.ownsRow base e 1 v xs.length (nums .u8 xs)) (HB : Below base w0 W) (hbase : base ≤ W.heap.size) (hl : xs.length + y.size ≤ 140737488355328)
    (h : ∀ v1 w1, w1.ownsRow base e 1 v1 (xs ++ bytesOf y).length (nums .u8 (xs ++ bytesOf y)) → Below base w0 w1 → W.grownBy w1 v.ownBlock → Kc (a.put o.dst v1) w1) :
    if Region.wanted o (yielded ops a.tmps) = true then Oper.wp P o a W Kc Q else Kc (a.put o.dst undef) W := by
  obtain ⟨i0, hi, hzz⟩ := Option.map_eq_some_iff.1 hinfo
  simp only [Prod.mk.injEq] at hzz
  obtain ⟨hz0, hz1, hz2⟩ := hzz
  rw [if_pos hw]
  obtain ⟨v1, w1, hr, hown, hg, _⟩ := Lib.run_append_own_string (P := P) W base t u o.type e i0 ht hu hi hz0 hz1 hz2 v xs.length (nums .u8 xs) HO y (by simp only [maxLen]; omega) hl hbase
  unfold Oper.wp execOp
  simp only [ho, resolve, invoke, builtin, Sem.run_bind, Sem.run_pure, Result.andThen_ok, List.map_toArray, List.map_cons, List.map_nil, hs, hx, hr]
  have hl2 : (xs ++ bytesOf y).length = xs.length + y.size := by rw [List.length_append, bytesOf_length]
  have hc : nums .u8 (xs ++ bytesOf y) = nums .u8 xs ++ Lib.strCells y := by
    rw [nums_append]
    congr 1
    simp [nums, bytesOf, Lib.strCells]
  exact h v1 w1 (by rw [hl2, hc]; exact hown) (HB.grown hg hbase (own_base HO)) hg
end
end Go.Proofs.YtcjahipcfcghlaaGreatX
