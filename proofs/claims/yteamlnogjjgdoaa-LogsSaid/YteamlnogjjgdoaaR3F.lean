/- Contracts: the scanner. -/
import Derived.Test.YteamlnogjjgdoaaR3E
namespace Go.AM
open Go.Proofs
set_option linter.unusedVariables false
set_option linter.unusedSimpArgs false
set_option maxRecDepth 100000
attribute [-simp] ByteArray.size_eq_zero_iff
structure Sc where
  done : List (List Img)
  used : Nat
  opn : List Img
  part : Nat
  full : Bool
abbrev encV : Value → List Value := fun v => [v]
theorem encV_len (v : Value) : (encV v).length = 1 := rfl
structure SR (n0 sb : Nat) (H : Heap) (S : Sc) (B : Blk) (D E : Nat) (vd vo : Value) (vs : List Value) : Prop where
  hb : H.blk sb = some B
  ro : B.ro = false
  c0 : B.at_ 0 = some vd
  c1 : B.at_ 1 = some (.int .i64 (S.used : Int))
  c2 : B.at_ 2 = some vo
  c3 : B.at_ 3 = some (.int .i64 (S.part : Int))
  c4 : B.at_ 4 = some (.bool S.full)
  lo : sb < n0
  nD : n0 ≤ D
  DE : D ≤ E
  EH : E ≤ H.next
  od : Own encV 1 D H vd vs
  bd : BelowB vd E
  oe : All2 (fun v xs => Own encI 2 n0 H v xs ∧ BelowB v D) vs S.done
  oo : Own encI 2 E H vo S.opn
def SRel (n0 sb : Nat) (H : Heap) (S : Sc) : Prop := ∃ B D E vd vo vs, SR n0 sb H S B D E vd vo vs
theorem SR.cell {n0 sb H S B D E vd vo vs} (h : SR n0 sb H S B D E vd vo vs) (o : Nat) : H.cell sb o = B.at_ o := by simp only [Heap.cell, h.hb]
theorem SR.add {n0 sb H S B D E vd vo vs} (h : SR n0 sb H S B D E vd vo vs) (X : Blk) : SR n0 sb (H.add X) S B D E vd vo vs := by
  have hE := (Ext.refl H).add X
  have := h.lo; have := h.nD; have := h.DE; have := h.EH
  exact ⟨by rw [hE.blk sb (by omega)]; exact h.hb, h.ro, h.c0, h.c1, h.c2, h.c3, h.c4, h.lo, h.nD, h.DE, by simp; omega, h.od.ext hE, h.bd, h.oe.mono fun v xs hx => ⟨hx.1.ext hE, hx.2⟩, h.oo.ext hE⟩
/-- The heaps agree below a block, save at one. -/
structure Beside (n0 sb : Nat) (H H' : Heap) : Prop where
  next : H.next ≤ H'.next
  blk : ∀ b, b < n0 → b ≠ sb → H'.blk b = H.blk b
theorem Beside.refl (n0 sb : Nat) (H : Heap) : Beside n0 sb H H := ⟨Nat.le_refl _, fun _ _ _ => rfl⟩
theorem Beside.trans {n0 sb : Nat} {A B C : Heap} (h : Beside n0 sb A B) (k : Beside n0 sb B C) : Beside n0 sb A C := ⟨Nat.le_trans h.next k.next, fun b h1 h2 => (k.blk b h1 h2).trans (h.blk b h1 h2)⟩
def commitS (S : Sc) (at_ : Nat) : Sc := { S with done := S.done ++ [S.opn], opn := [], used := at_ + 1 }
theorem commit_ok {n0 sb H S B D E vd vo vs} (h : SR n0 sb H S B D E vd vo vs) (i : Nat) (hi : i ≤ 1000) (hd : S.done.length ≤ 1000) :
    wpf (call K f_log_scanner_commit [.pointer (some ⟨sb, 0, none⟩), .int .i64 (i : Int)] H) fun v H' => v = .bool (decide (S.part = 0)) ∧ Beside n0 sb H H' ∧ SRel n0 sb H' (if S.part = 0 then commitS S i else S) := by
  obtain ⟨p, c, rfl, hp⟩ := h.od.slc
  obtain ⟨q, d, rfl, hq⟩ := h.oo.slc
  have hlen := h.oe.length
  have g1 := h.lo; have g2 := h.nD; have g3 := h.DE; have g4 := h.EH
  have n1 : sb ≠ H.next := by omega
  have n2 : sb ≠ H.next + 1 := by omega
  refine open_plain rfl fc_log_scanner_commit rfl (Nat.le_of_ble_eq_true rfl) ?_
  by_cases h0 : S.part = 0
  · have w1 := wrap_succ (i := i) (by omega)
    have hA : ∀ X, appV (H.add X) 1 24 1 (.slice p vs.length c) [.slice q S.opn.length d] = some (.slice (some ⟨H.next + 1, 0, none⟩) (vs.length + 1) (2 * (vs.length + 1)), (killB (.slice p vs.length c) (H.add X)).add (rowBlk 1 ((vs ++ [Value.slice q S.opn.length d]).flatMap encV))) := fun X => by
      rw [(h.od.ext ((Ext.refl H).add X)).app encV_len _ (by omega) rfl (by omega) (by omega)]
      simp
    have hk : ∀ X b, b < D → (killB (.slice p vs.length c) (H.add X)).blk b = (H.add X).blk b := fun X b hb => blk_killB (h.od.notIn hb)
    have hk0 : ∀ X, (killB (.slice p vs.length c) (H.add X)).blk sb = (H.add X).blk sb := fun X => hk X sb (by omega)
    have hk1 : ∀ X o, (killB (.slice p vs.length c) (H.add X)).cell sb o = (H.add X).cell sb o := fun X o => by simp only [Heap.cell, hk0]
    simp [h.cell, h.hb, h.ro, h.c0, h.c1, h.c2, h.c3, h.c4, h0, w1, n1, n2, hA, hk0, hk1]
    have hE1 := (Ext.refl H).add (rowBlk 1 [Value.slice q S.opn.length d])
    have hvd : ∀ b, b < D → NotIn (.slice p vs.length c) b := fun b hb => h.od.notIn hb
    refine ⟨⟨by simp; omega, fun b hb hb2 => ?_⟩, ?_⟩
    · have : b ≠ H.next + 1 := by omega
      have : b ≠ H.next := by omega
      have e1 := blk_killB (v := .slice p vs.length c) (H := H.add (rowBlk 1 [Value.slice q S.opn.length d])) (hvd b (by omega))
      rw [blk_set_ne hb2, blk_add, if_neg (by simp; omega), e1, blk_add, if_neg (by omega)]
    · have hz := Own.new' (enc := encV) (sz := 1) (n0 := H.next) (b := H.next + 1) (H := killB (.slice p vs.length c) (H.add (rowBlk 1 [Value.slice q S.opn.length d]))) (xs := vs ++ [.slice q S.opn.length d]) (by simp) (by omega) (by simp; omega) rfl
      refine ⟨((B.put 0 (Value.slice (some { block := H.next + 1, off := 0 }) (vs.length + 1) (2 * (vs.length + 1)))).put 2 (Value.slice none 0 0)).put 1 (Value.int IntKind.i64 (↑i + 1)), H.next, H.next + 2, Value.slice (some { block := H.next + 1, off := 0 }) (vs.length + 1) (2 * (vs.length + 1)), .slice none 0 0, vs ++ [.slice q S.opn.length d], ?_⟩
      have hz2 := hz.set (k := sb) (by omega) (some (((B.put 0 (Value.slice (some { block := H.next + 1, off := 0 }) (vs.length + 1) (2 * (vs.length + 1)))).put 2 (Value.slice none 0 0)).put 1 (Value.int IntKind.i64 (↑i + 1))))
      have hB : ∀ x xs, Own encI 2 n0 H x xs ∧ BelowB x H.next → (∀ b, b < H.next → ¬ NotIn x b → NotIn (.slice p vs.length c) b) → Own encI 2 n0 ((((killB (Value.slice p vs.length c) (H.add (rowBlk 1 [Value.slice q S.opn.length d]))).add (rowBlk 1 (vs ++ encV (Value.slice q S.opn.length d)))).set sb (some (((B.put 0 (Value.slice (some { block := H.next + 1, off := 0 }) (vs.length + 1) (2 * (vs.length + 1)))).put 2 (Value.slice none 0 0)).put 1 (Value.int IntKind.i64 (↑i + 1)))))) x xs := fun x xs hx hn => by
        refine ((Own.frame (H := H) hx.1 (H' := killB (Value.slice p vs.length c) (H.add (rowBlk 1 [Value.slice q S.opn.length d]))) (by simp) fun b h1 h2 h3 => ?_).ext ((Ext.refl _).add _)).set g1 _
        rw [blk_killB (hn b h2 h3)]; exact hE1.blk b h2
      exact { hb := by simp, ro := by simpa using h.ro, c0 := by simp, c1 := by simp [commitS], c2 := by simp, c3 := by simpa [commitS] using h.c3, c4 := by simpa [commitS] using h.c4, lo := g1, nD := by omega, DE := by omega, EH := by simp,
              od := by simpa using hz2, bd := BelowB.slice (by omega),
              oe := by
                refine All2.append ?_ ⟨⟨?_, h.oo.below⟩, trivial⟩
                · exact h.oe.mono fun x xs hx => ⟨hB x xs ⟨hx.1, hx.2.mono (by omega)⟩ fun b h1 h2 => Classical.byContradiction fun h3 => h2 (hx.2.notIn (Nat.le_of_not_lt fun h4 => h3 (hvd b h4))), hx.2.mono (by omega)⟩
                · refine hB _ _ ⟨h.oo.low (by omega), h.oo.below⟩ fun b h1 h2 => ?_
                  exact h.bd.notIn (Nat.le_of_not_lt fun h4 => h2 (h.oo.notIn h4)),
              oo := Own.nil }
  · simp [h.cell, h.c3, h0]
    exact ⟨Beside.refl _ _ _, _, _, _, _, _, _, h⟩
end Go.AM
