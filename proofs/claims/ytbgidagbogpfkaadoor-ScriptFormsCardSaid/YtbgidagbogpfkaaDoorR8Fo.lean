import Derived.Test.YtbgidagbogpfkaaDoorR8CodeL
import Derived.Test.YtbgidagbogpfkaaDoorR8Kk
/- The statement ScriptForms. -/
namespace Go.AM
open Go.Proofs
set_option linter.unusedVariables false
set_option linter.unusedSimpArgs false
set_option maxRecDepth 100000
attribute [-simp] ByteArray.size_eq_zero_iff Heap.store Heap.row
def fA : ByteArray := ⟨#[97]⟩
/-- The acts that may not be. -/
def bads (d : Nat) : List Ac := [{ zA with kind := -(d : Int) }, { zA with kind := 12 + (d : Int) }, { zA with name := ⟨#[110, 105, 110, 101, 98, 121, 116, 101, 115]⟩ }, { zA with to := fA }, { zA with path := fA }, { zA with text := fA }, { zA with cut := -(d : Int) }, { zA with cut := 1000 + (d : Int) }, { zA with keep := fA }, { zA with torn := 1 }, { zA with at_ := 1 },
  { zA with cut := 1, at_ := 64 + (d : Int) }, { zA with cut := 1, torn := -1 - (d : Int) }, { zA with cut := 1, torn := 512 + (d : Int) }, { zA with cut := 1, keep := zer (512 + d) }, { zA with kind := 12, cut := 1 }, { zA with kind := 12, name := fA }, { zA with kind := 9, name := fA }, { zA with kind := 11, text := fA }, { zA with kind := 2, parent := fA }, { zA with kind := 8, path := fA }, { zA with kind := 7, text := fA }]
theorem bads_len (d : Nat) : (bads d).length = 22 := rfl
theorem notMay {a : Ac} (h : ¬ MayP a) : mayB a = false := by
  cases hb : mayB a with
  | false => rfl
  | true => exact absurd (MayP.of hb) h
theorem bads_not {d : Nat} (h1 : 1 ≤ d) : ∀ a ∈ bads d, mayB a = false := by
  intro a ha
  simp only [bads, List.mem_cons, List.not_mem_nil, or_false] at ha
  rcases ha with rfl | rfl | rfl | rfl | rfl | rfl | rfl | rfl | rfl | rfl | rfl | rfl | rfl | rfl | rfl | rfl | rfl | rfl | rfl | rfl | rfl | rfl
  · exact notMay fun h => by have := h.kind; simp only at this; omega
  · exact notMay fun h => by have := h.kind; simp only at this; omega
  · kernel_rfl
  · kernel_rfl
  · kernel_rfl
  · kernel_rfl
  · exact notMay fun h => by have := h.cut; simp only at this; omega
  · exact notMay fun h => by have := h.cut; simp only at this; omega
  · kernel_rfl
  · kernel_rfl
  · kernel_rfl
  · exact notMay fun h => by have := h.at_; simp only at this; omega
  · exact notMay fun h => by have := h.torn; simp only at this; omega
  · exact notMay fun h => by have := h.torn; simp only at this; omega
  · exact notMay fun h => by have := h.keep; simp only [zer_size] at this; omega
  · kernel_rfl
  · kernel_rfl
  · kernel_rfl
  · kernel_rfl
  · kernel_rfl
  · kernel_rfl
  · kernel_rfl
/-- The texts that are none. -/
def badT : List ByteArray := [⟨#[48]⟩, ⟨#[57, 32, 48, 32, 48, 32, 49, 32]⟩, ⟨#[57, 32, 48, 32, 48, 32, 49, 32, 48, 58, 48, 58, 48, 58, 48, 58, 48, 58]⟩, ⟨#[57, 32, 48, 32, 48, 32, 49, 32, 48, 58, 48, 58, 48, 58, 48, 58, 48, 58, 48, 58, 32]⟩, ⟨#[48, 57, 32, 48, 32, 48, 32, 49, 32, 48, 58, 48, 58, 48, 58, 48, 58, 48, 58, 48, 58]⟩, ⟨#[57, 32, 48, 32, 48, 32, 49, 32, 49, 58, 97, 48, 58, 48, 58, 48, 58, 48, 58, 48, 58]⟩, ⟨#[57, 32, 48, 32, 48, 32, 49, 32, 48, 58, 48, 58, 48, 58, 48, 58, 48, 58, 49, 58]⟩, ⟨#[57, 32, 48, 32, 48, 32, 48, 32, 48, 58, 48, 58, 48, 58, 48, 58, 48, 58, 48, 58]⟩, ⟨#[57, 44, 48, 32, 48, 32, 49, 32, 48, 58, 48, 58, 48, 58, 48, 58, 48, 58, 48, 58]⟩, ⟨#[57, 32, 48, 32, 48, 32, 49, 32, 48, 59, 48, 58, 48, 58, 48, 58, 48, 58, 48, 58]⟩]
def chkT (t : ByteArray) : Bool := (parseF 257 [] (L t) false).2 || !((parseF 257 [] (L t) false).1.all mayB) || !(showL (parseF 257 [] (L t) false).1 == L t)
theorem chk_all : badT.all chkT = true := by kernel_rfl
theorem chk_parse {t : ByteArray} (h : chkT t = true) : parseS t = ([], 2400) := by
  rw [← parse_spec]
  unfold resP
  rw [if_neg]
  rintro ⟨h1, h2⟩
  obtain ⟨_, k2, k3⟩ := showS_ok h2
  unfold chkT at h
  have k4 : L t = showL (parseF 257 [] (L t) false).1 := by
    have := congrArg L k3
    rwa [L_S] at this
  rw [← k4] at h
  rw [h1, k2] at h
  simp at h
theorem badT_len : badT.length = 10 := rfl
theorem rows_zero (G : Heap) : Rows encA 10 (G.add (fillB 10 257 (encA zA))) (.slice (some ⟨G.next, 0, none⟩) 257 515) (List.replicate 257 zA) := by
  refine ⟨by rw [List.length_replicate]; omega, _, _, by rw [List.length_replicate], .inr ⟨G.next, 0, rfl, by simp, by rw [List.length_replicate]; omega, fun i hi j hj => ?_⟩⟩
  rw [List.length_replicate] at hi
  rw [cell_add_new, List.getElem_replicate, Nat.zero_add, at_fillB, if_pos (by omega), Nat.add_comm, Nat.add_mul_mod_self_right, Nat.mod_eq_of_lt hj]
theorem showS_many : showS (List.replicate 257 zA) = (⟨#[]⟩, 2400) := by
  unfold showS; rw [if_neg (by rw [List.length_replicate]; omega)]
theorem badT_cell {G : Heap} {cs : List Value} (hcs : cs = badT.map .string) {k : Nat} (hk : k < badT.length) : (G.add (rowBlk 1 cs)).cell G.next k = some (.string badT[k]) := by
  rw [cell_add_new, hcs]
  show ((badT.map Value.string)[k]?) = _
  rw [List.getElem?_map, List.getElem?_eq_getElem hk]; rfl
theorem forms_law (which x : Int) (H : Heap) : call K f_law24_ScriptForms [.int .i64 which, .int .i64 x] H = some (.bool true, H) := by
  refine of_wpf (open_pure rfl fc_law24_ScriptForms rfl (Nat.le_of_ble_eq_true rfl) ?_)
  have ha := awake_ok H.roAll
  generalize H.roAll = G at *
  obtain ⟨n, hn⟩ := wrap64_nat which
  have r1 := rem_lit n 22 (by decide)
  have r2 := rem_lit n 10 (by decide)
  have hk := Nat.mod_lt n (show 0 < 22 by decide)
  have hf := Nat.mod_lt n (show 0 < 10 by decide)
  have w1 : IntKind.i64.wrap ((n % 22 : Nat) : Int) = ((n % 22 : Nat) : Int) := wrap_i64 (by omega) (by omega)
  have w2 : IntKind.i64.wrap ((n % 10 : Nat) : Int) = ((n % 10 : Nat) : Int) := wrap_i64 (by omega) (by omega)
  generalize n % 22 = k at *
  generalize n % 10 = f at *
  have r1 : binV K.P .rem 40 (.int .u64 (n : Int)) (.int .u64 22) = some (.int .u64 (k : Int)) := r1
  have r2 : binV K.P .rem 40 (.int .u64 (n : Int)) (.int .u64 10) = some (.int .u64 (f : Int)) := r2
  obtain ⟨d, hd, d1, d2⟩ : ∃ d : Nat, IntKind.i64.wrap (1 + bits .and .i64 x 1023) = (d : Int) ∧ 1 ≤ d ∧ d ≤ 1024 := by
    rw [and1023, wrap_i64 (by omega) (by omega)]; exact ⟨(1 + x % 1024).toNat, by omega, by omega, by omega⟩
  have v1 : IntKind.i64.wrap (12 + (d : Int)) = 12 + (d : Int) := wrap_i64 (by omega) (by omega)
  have v2 : IntKind.i64.wrap (1000 + (d : Int)) = 1000 + (d : Int) := wrap_i64 (by omega) (by omega)
  have v3 : IntKind.i64.wrap (64 + (d : Int)) = 64 + (d : Int) := wrap_i64 (by omega) (by omega)
  have v4 : IntKind.i64.wrap (-1 - (d : Int)) = -1 - (d : Int) := wrap_i64 (by omega) (by omega)
  have v5 : IntKind.i64.wrap (512 + (d : Int)) = ((512 + d : Nat) : Int) := wrap_i64 (by omega) (by omega)
  have v6 : IntKind.i64.wrap (-(d : Int)) = -(d : Int) := wrap_i64 (by omega) (by omega)
  have hz := row_fill1 G G.next (512 + d) (512 + d) (.int .u8 0) rfl (Nat.le_refl _)
  have hbe : 512 + d ≤ 70368744177664 := by omega
  generalize hG1 : G.add (fillB 1 (512 + d) [.int .u8 0]) = G1 at *
  have nG1 : G1.next = G.next + 1 := by rw [← hG1]; rfl
  have hkl : k < (bads d).length := by rw [bads_len]; exact hk
  have hfl : f < badT.length := hf
  have hG2 := (Ext.refl G1).add (rowBlk 10 ((bads d).flatMap encA))
  have hR2 : Rows encA 10 (G1.add (rowBlk 10 ((bads d).flatMap encA))) (.slice (some ⟨G1.next, 0, none⟩) 22 45) (bads d) := rows_add encA_len rfl (bads_len d).symm (by omega) (by omega)
  obtain ⟨_, _, hbb, _, hrow⟩ := rows_act hR2 hkl
  cases hbb
  rw [Nat.zero_add] at hrow
  have hq := bads_not d1 _ (List.getElem_mem hkl)
  generalize (bads d)[k] = q at *
  obtain ⟨qk, qn, qp, qt, qpa, qtx, qc, qke, qto, qat⟩ := q
  generalize hq0 : (⟨qk, qn, qp, qt, qpa, qtx, qc, qke, qto, qat⟩ : Ac) = q at *
  have hqe : encA q = [.int .i64 qk, .string qn, .string qp, .string qt, .string qpa, .string qtx, .int .i64 qc, .string qke, .int .i64 qto, .int .i64 qat] := by rw [← hq0]; rfl
  generalize hH2 : G1.add (rowBlk 10 ((bads d).flatMap encA)) = G2 at *
  simp only [bads, fA, List.flatMap_cons, List.flatMap_nil, encA, zA, List.cons_append, List.nil_append, List.append_nil] at hH2
  obtain ⟨X, x1, x2, x3, x4⟩ := new_act G2 q
  have hrowX := x3.isA.row
  have hR3 : Rows encA 10 (X.add (rowBlk 10 ([{ zA with kind := 11 }, q].flatMap encA))) (.slice (some ⟨X.next, 0, none⟩) 2 5) [{ zA with kind := 11 }, q] := rows_add encA_len rfl rfl (by omega) (by omega)
  have hs3 := show_ok _ _ _ hR3
  have hsS : showS [{ zA with kind := 11 }, q] = (⟨#[]⟩, 2400) := by
    unfold showS; rw [if_neg]; rintro ⟨_, h⟩; simp [hq] at h
  rw [showV_eq, hsS] at hs3
  have E3 : Ext X (X.add (rowBlk 10 ([{ zA with kind := 11 }, q].flatMap encA))) := (Ext.refl X).add _
  have hc4 := badT_cell (G := X.add (rowBlk 10 ([{ zA with kind := 11 }, q].flatMap encA))) (cs := badT.map .string) rfl hfl
  have E4 := E3.add (rowBlk 1 (badT.map .string))
  have hT := chk_parse (List.all_eq_true.1 chk_all _ (List.getElem_mem hfl))
  have ht : badT[f].size ≤ 140737488355328 := by
    have : (badT.all fun t => decide (t.size ≤ 100)) = true := by kernel_rfl
    have := List.all_eq_true.1 this _ (List.getElem_mem hfl)
    simp at this; omega
  generalize badT[f] = t at *
  have hc4' : ((X.add (rowBlk 10 ([{ zA with kind := 11 }, q].flatMap encA))).add (rowBlk 1 (badT.map .string))).cell (X.next + 1) f = some (.string t) := hc4
  generalize hH4 : (X.add (rowBlk 10 ([{ zA with kind := 11 }, q].flatMap encA))).add (rowBlk 1 (badT.map .string)) = G4 at *
  obtain ⟨pv, G5, p1, p2, E5⟩ := parse_ok' t ht G4
  rw [hT] at p1 p2
  have hR6 := rows_zero G5
  have hs6 := show_ok _ _ _ hR6
  rw [showV_eq, showS_many] at hs6
  have E6 : Ext G5 (G5.add (fillB 10 257 (encA zA))) := (Ext.refl G5).add _
  have v6' := x3.other (X := G5.add (fillB 10 257 (encA zA))) (((E4.trans E5).trans E6).blk _ (by omega))
  have hrow6 := v6'.isA.row
  have hmay := fun H => may_ok q H
  rw [hq] at hmay
  obtain ⟨pp, pc, rfl⟩ := p2.slice
  unfold acV at hmay
  rw [hqe] at hmay hrow6 hrowX hrow x1
  generalize hm : 512 + d = m at *
  have hmi : (512 : Int) + (d : Int) = (m : Int) := by omega
  rw [hmi] at hH2
  have hH3 : X.add (rowBlk 10 ([{ zA with kind := 11 }, q].flatMap encA)) = X.add (rowBlk 10 [.int .i64 11, .string ⟨#[]⟩, .string ⟨#[]⟩, .string ⟨#[]⟩, .string ⟨#[]⟩, .string ⟨#[]⟩, .int .i64 0, .string ⟨#[]⟩, .int .i64 0, .int .i64 0, .int .i64 qk, .string qn, .string qp, .string qt, .string qpa, .string qtx, .int .i64 qc, .string qke, .int .i64 qto, .int .i64 qat]) := by
    rw [← hq0]; rfl
  rw [hH3] at hH4 hs3
  simp only [badT, List.map_cons, List.map_nil] at hH4
  simp only [zA_enc] at x1 hs6 hrow6
  have hn257 : natOf (.int .i64 257) = some 257 := rfl

  simp [ha, hd, v1, v2, v3, v4, v5, v6, hG1, hz, hbe, nums_rep, str_zero, hn, r1, w1, hH2, hrow, hk, x1, hrowX, hs3, r2, w2, hf, hH4, hc4', p1, hs6, hrow6, hmay, hn257]
  done
end Go.AM
