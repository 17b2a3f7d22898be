import Derived.Test.YtiiliffoclejlaaR6J1
section TextR6F
/- Contracts: the scanner. -/
namespace Go.AM
open Go.Proofs
set_option linter.unusedVariables false
set_option linter.unusedSimpArgs false
set_option maxRecDepth 100000
attribute [-simp] ByteArray.size_eq_zero_iff
structure Sc where
  done : List (List Img)
  used : Nat
  opn : List Img
  part : Nat
  full : Bool
abbrev encV : Value → List Value := fun v => [v]
theorem encV_len (v : Value) : (encV v).length = 1 := rfl
structure SR (n0 sb : Nat) (H : Heap) (S : Sc) (B : Blk) (D E : Nat) (vd vo : Value) (vs : List Value) : Prop where
  hb : H.blk sb = some B
  ro : B.ro = false
  c0 : B.at_ 0 = some vd
  c1 : B.at_ 1 = some (.int .i64 (S.used : Int))
  c2 : B.at_ 2 = some vo
  c3 : B.at_ 3 = some (.int .i64 (S.part : Int))
  c4 : B.at_ 4 = some (.bool S.full)
  lo : sb < n0
  nD : n0 ≤ D
  DE : D ≤ E
  EH : E ≤ H.next
  od : Own encV 1 D H vd vs
  bd : BelowB vd E
  oe : All2 (fun v xs => Own encI 2 n0 H v xs ∧ BelowB v D) vs S.done
  oo : Own encI 2 E H vo S.opn
def SRel (n0 sb : Nat) (H : Heap) (S : Sc) : Prop := ∃ B D E vd vo vs, SR n0 sb H S B D E vd vo vs
theorem SR.cell {n0 sb H S B D E vd vo vs} (h : SR n0 sb H S B D E vd vo vs) (o : Nat) : H.cell sb o = B.at_ o := by simp only [Heap.cell, h.hb]
theorem SR.add {n0 sb H S B D E vd vo vs} (h : SR n0 sb H S B D E vd vo vs) (X : Blk) : SR n0 sb (H.add X) S B D E vd vo vs := by
  have hE := (Ext.refl H).add X
  have := h.lo; have := h.nD; have := h.DE; have := h.EH
  exact ⟨by rw [hE.blk sb (by omega)]; exact h.hb, h.ro, h.c0, h.c1, h.c2, h.c3, h.c4, h.lo, h.nD, h.DE, by simp; omega, h.od.ext hE, h.bd, h.oe.mono fun v xs hx => ⟨hx.1.ext hE, hx.2⟩, h.oo.ext hE⟩
/-- The heaps agree below a block, save at one. -/
structure Beside (n0 sb : Nat) (H H' : Heap) : Prop where
  next : H.next ≤ H'.next
  blk : ∀ b, b < n0 → b ≠ sb → H'.blk b = H.blk b
theorem Beside.refl (n0 sb : Nat) (H : Heap) : Beside n0 sb H H := ⟨Nat.le_refl _, fun _ _ _ => rfl⟩
theorem Beside.trans {n0 sb : Nat} {A B C : Heap} (h : Beside n0 sb A B) (k : Beside n0 sb B C) : Beside n0 sb A C := ⟨Nat.le_trans h.next k.next, fun b h1 h2 => (k.blk b h1 h2).trans (h.blk b h1 h2)⟩
def commitS (S : Sc) (at_ : Nat) : Sc := { S with done := S.done ++ [S.opn], opn := [], used := at_ + 1 }
theorem commit_ok {n0 sb H S B D E vd vo vs} (h : SR n0 sb H S B D E vd vo vs) (i : Nat) (hi : i ≤ 1000) (hd : S.done.length ≤ 1000) :
    wpf (call K f_log_scanner_commit [.pointer (some ⟨sb, 0, none⟩), .int .i64 (i : Int)] H) fun v H' => v = .bool (decide (S.part = 0)) ∧ Beside n0 sb H H' ∧ SRel n0 sb H' (if S.part = 0 then commitS S i else S) := by
  obtain ⟨p, c, rfl, hp⟩ := h.od.slc
  obtain ⟨q, d, rfl, hq⟩ := h.oo.slc
  have hlen := h.oe.length
  have g1 := h.lo; have g2 := h.nD; have g3 := h.DE; have g4 := h.EH
  have n1 : sb ≠ H.next := by omega
  have n2 : sb ≠ H.next + 1 := by omega
  refine open_plain rfl fc_log_scanner_commit rfl (Nat.le_of_ble_eq_true rfl) ?_
  by_cases h0 : S.part = 0
  · have w1 := wrap_succ (i := i) (by omega)
    have hA : ∀ X, appV (H.add X) 1 24 1 (.slice p vs.length c) [.slice q S.opn.length d] = some (.slice (some ⟨H.next + 1, 0, none⟩) (vs.length + 1) (2 * (vs.length + 1)), (killB (.slice p vs.length c) (H.add X)).add (rowBlk 1 ((vs ++ [Value.slice q S.opn.length d]).flatMap encV))) := fun X => by
      rw [(h.od.ext ((Ext.refl H).add X)).app encV_len _ (by omega) rfl (by omega) (by omega)]
      simp
    have hk : ∀ X b, b < D → (killB (.slice p vs.length c) (H.add X)).blk b = (H.add X).blk b := fun X b hb => blk_killB (h.od.notIn hb)
    have hk0 : ∀ X, (killB (.slice p vs.length c) (H.add X)).blk sb = (H.add X).blk sb := fun X => hk X sb (by omega)
    have hk1 : ∀ X o, (killB (.slice p vs.length c) (H.add X)).cell sb o = (H.add X).cell sb o := fun X o => by simp only [Heap.cell, hk0]
    simp [h.cell, h.hb, h.ro, h.c0, h.c1, h.c2, h.c3, h.c4, h0, w1, n1, n2, hA, hk0, hk1]
    have hE1 := (Ext.refl H).add (rowBlk 1 [Value.slice q S.opn.length d])
    have hvd : ∀ b, b < D → NotIn (.slice p vs.length c) b := fun b hb => h.od.notIn hb
    refine ⟨⟨by simp; omega, fun b hb hb2 => ?_⟩, ?_⟩
    · have : b ≠ H.next + 1 := by omega
      have : b ≠ H.next := by omega
      have e1 := blk_killB (v := .slice p vs.length c) (H := H.add (rowBlk 1 [Value.slice q S.opn.length d])) (hvd b (by omega))
      rw [blk_set_ne hb2, blk_add, if_neg (by simp; omega), e1, blk_add, if_neg (by omega)]
    · have hz := Own.new' (enc := encV) (sz := 1) (n0 := H.next) (b := H.next + 1) (H := killB (.slice p vs.length c) (H.add (rowBlk 1 [Value.slice q S.opn.length d]))) (xs := vs ++ [.slice q S.opn.length d]) (by simp) (by omega) (by simp; omega) rfl
      refine ⟨((B.put 0 (Value.slice (some { block := H.next + 1, off := 0 }) (vs.length + 1) (2 * (vs.length + 1)))).put 2 (Value.slice none 0 0)).put 1 (Value.int IntKind.i64 (↑i + 1)), H.next, H.next + 2, Value.slice (some { block := H.next + 1, off := 0 }) (vs.length + 1) (2 * (vs.length + 1)), .slice none 0 0, vs ++ [.slice q S.opn.length d], ?_⟩
      have hz2 := hz.set (k := sb) (by omega) (some (((B.put 0 (Value.slice (some { block := H.next + 1, off := 0 }) (vs.length + 1) (2 * (vs.length + 1)))).put 2 (Value.slice none 0 0)).put 1 (Value.int IntKind.i64 (↑i + 1))))
      have hB : ∀ x xs, Own encI 2 n0 H x xs ∧ BelowB x H.next → (∀ b, b < H.next → ¬ NotIn x b → NotIn (.slice p vs.length c) b) → Own encI 2 n0 ((((killB (Value.slice p vs.length c) (H.add (rowBlk 1 [Value.slice q S.opn.length d]))).add (rowBlk 1 (vs ++ encV (Value.slice q S.opn.length d)))).set sb (some (((B.put 0 (Value.slice (some { block := H.next + 1, off := 0 }) (vs.length + 1) (2 * (vs.length + 1)))).put 2 (Value.slice none 0 0)).put 1 (Value.int IntKind.i64 (↑i + 1)))))) x xs := fun x xs hx hn => by
        refine ((Own.frame (H := H) hx.1 (H' := killB (Value.slice p vs.length c) (H.add (rowBlk 1 [Value.slice q S.opn.length d]))) (by simp) fun b h1 h2 h3 => ?_).ext ((Ext.refl _).add _)).set g1 _
        rw [blk_killB (hn b h2 h3)]; exact hE1.blk b h2
      exact { hb := by simp, ro := by simpa using h.ro, c0 := by simp, c1 := by simp [commitS], c2 := by simp, c3 := by simpa [commitS] using h.c3, c4 := by simpa [commitS] using h.c4, lo := g1, nD := by omega, DE := by omega, EH := by simp,
              od := by simpa using hz2, bd := BelowB.slice (by omega),
              oe := by
                refine All2.append ?_ ⟨⟨?_, h.oo.below⟩, trivial⟩
                · exact h.oe.mono fun x xs hx => ⟨hB x xs ⟨hx.1, hx.2.mono (by omega)⟩ fun b h1 h2 => Classical.byContradiction fun h3 => h2 (hx.2.notIn (Nat.le_of_not_lt fun h4 => h3 (hvd b h4))), hx.2.mono (by omega)⟩
                · refine hB _ _ ⟨h.oo.low (by omega), h.oo.below⟩ fun b h1 h2 => ?_
                  exact h.bd.notIn (Nat.le_of_not_lt fun h4 => h2 (h.oo.notIn h4)),
              oo := Own.nil }
  · simp [h.cell, h.c3, h0]
    exact ⟨Beside.refl _ _ _, _, _, _, _, _, _, h⟩
end Go.AM
end TextR6F
section TextR6G
/- Contracts: the scanner's take. -/
namespace Go.AM
open Go.Proofs
set_option linter.unusedVariables false
set_option linter.unusedSimpArgs false
set_option maxRecDepth 100000
attribute [-simp] ByteArray.size_eq_zero_iff
theorem SR.setOpn {n0 sb H S B D E vd vo vs} (h : SR n0 sb H S B D E vd vo vs) {b : Nat} (hb : E ≤ b) (f : Option Blk) {os : List Img} (ho : Own encI 2 E (H.set b f) vo os) : SR n0 sb (H.set b f) { S with opn := os } B D E vd vo vs := by
  have := h.lo; have := h.nD; have := h.DE
  exact { hb := by rw [blk_set_ne (by omega)]; exact h.hb, ro := h.ro, c0 := h.c0, c1 := h.c1, c2 := h.c2, c3 := h.c3, c4 := h.c4, lo := h.lo, nD := h.nD, DE := h.DE, EH := h.EH,
          od := h.od.setB (h.bd.notIn hb) f, bd := h.bd, oe := h.oe.mono fun v xs hx => ⟨hx.1.setB (hx.2.notIn (by omega)) f, hx.2⟩, oo := ho }
theorem SR.setCells {n0 sb H S B D E vd vo vs} (h : SR n0 sb H S B D E vd vo vs) {B' : Blk} {p : Nat} {fl : Bool} (hro : B'.ro = false) (h0 : B'.at_ 0 = B.at_ 0) (h1 : B'.at_ 1 = B.at_ 1) (h2 : B'.at_ 2 = B.at_ 2) (h3 : B'.at_ 3 = some (.int .i64 (p : Int))) (h4 : B'.at_ 4 = some (.bool fl)) :
    SR n0 sb (H.set sb (some B')) { S with part := p, full := fl } B' D E vd vo vs := by
  have := h.lo; have := h.nD; have := h.DE
  exact { hb := by simp, ro := hro, c0 := by rw [h0]; exact h.c0, c1 := by rw [h1]; exact h.c1, c2 := by rw [h2]; exact h.c2, c3 := h3, c4 := h4, lo := h.lo, nD := h.nD, DE := h.DE, EH := h.EH,
          od := h.od.set (by omega) _, bd := h.bd, oe := h.oe.mono fun v xs hx => ⟨hx.1.set h.lo _, hx.2⟩, oo := h.oo.set (by omega) _ }
theorem tail_ok {n0 sb G S B D E vd vo vs} (h : SR n0 sb G S B D E vd vo vs) (ini : List Img) (pg : Int) (tx d : ByteArray) (t : Int) (hop : S.opn = ini ++ [(pg, tx)]) (e : Env) (rb : Nat) (R : Blk) (hR : G.blk rb = some R) (r2 : R.at_ 2 = some (.int .i64 t)) (r3 : R.at_ 3 = some (.string d))
    (hrs : rb ≠ sb) (hrv : NotIn vo rb) (he0 : e 0 = .pointer (some ⟨sb, 0, none⟩)) (he4 : e 4 = .pointer (some ⟨rb, 0, none⟩)) (ht : 0 ≤ t ∧ t < 4) (hlen : ini.length ≤ 1000) (hsz : tx.size ≤ 100000) (hds : d.size ≤ 24) :
    wp (run K (.seq (.regd c_log_scanner_take_r12 []) (.seq (.regd c_log_scanner_take_r13 [(7, 12)]) (.seq (.reg c_log_scanner_take_r14) .ret))) e G) fun x e' G' => isEnd x = true ∧ e' 6 = .bool true ∧ Beside n0 sb G G' ∧ SRel n0 sb G' { S with opn := ini ++ [(pg, tx ++ d)], part := ((t + 1) % 4).toNat, full := decide (d.size = 24) } := by
  have g1 := h.lo; have g2 := h.nD; have g3 := h.DE; have g4 := h.EH
  obtain ⟨b, B2, rfl, hbE, hbn, hB2, hro2, hat, hup⟩ := h.oo.blkOf encI_len (by rw [hop]; simp)
  have hl : S.opn.length = ini.length + 1 := by rw [hop]; simp
  have hx : S.opn[ini.length]'(by omega) = (pg, tx) := by simp [hop]
  have a0 := hat ini.length (by omega) 0 (by omega)
  have a1 := hat ini.length (by omega) 1 (by omega)
  rw [hx] at a0 a1
  have hset : S.opn.set ini.length (pg, tx ++ d) = ini ++ [(pg, tx ++ d)] := by rw [hop]; simp
  have hO := hup ini.length 1 (by omega) (by omega) (pg, tx ++ d) (.string (tx ++ d)) (fun r hr => by
    rw [hx]; match r, hr with
    | 0, _ => rfl
    | 1, _ => rfl)
  rw [hset] at hO
  have hS1 := h.setOpn hbE _ hO
  have nb : b ≠ sb := by omega
  have nb' : sb ≠ b := by omega
  have nr : rb ≠ b := fun e => hrv _ _ _ rfl (by simpa using e)
  have w1 : IntKind.i64.wrap (((ini.length : Int) + 1) - 1) = (ini.length : Int) := by rw [wrap_i64 (by omega) (by omega)]; omega
  simp at a0 a1 w1
  have w2 : binV K.P .add tyStr (.string tx) (.string d) = some (.string (tx ++ d)) := binV_sadd _ _ _ _ (by omega)
  have w3 : IntKind.i64.wrap (t + 1) = t + 1 := wrap_i64 (by omega) (by omega)
  obtain ⟨m, hm⟩ : ∃ m : Nat, m = ((t + 1) % 4).toNat := ⟨_, rfl⟩
  have w4 : binV K.P .rem tyInt (.int .i64 (t + 1)) (.int .i64 4) = some (.int .i64 (m : Int)) := by
    rw [binV_rem _ _ _ _ _ (by omega), Int.tmod_eq_emod_of_nonneg (by omega)]; congr 2; omega
  have w5 : decide ((d.size : Int) = 24) = decide (d.size = 24) := by congr 1; apply propext; omega
  have hcs : ∀ o, G.cell sb o = B.at_ o := fun o => h.cell o
  have hcb : ∀ o, G.cell b o = B2.at_ o := fun o => by simp only [Heap.cell, hB2]
  have hcr : ∀ o, G.cell rb o = R.at_ o := fun o => by simp only [Heap.cell, hR]
  rw [← hm]
  simp [he0, he4, hl, hcs, hcb, hcr, h.hb, h.ro, h.c0, h.c1, h.c2, h.c3, h.c4, hB2, hro2, a0, a1, r2, r3, hrs, nb, nb', nr, w1, w2, w3, w4, w5, run_regd_tr, finD_some, Chk, wanted]
  have hS2 := hS1.setCells (B' := (B.put 3 (.int .i64 (m : Int))).put 4 (.bool (decide (d.size = 24)))) (p := m) (fl := decide (d.size = 24)) (by simpa using h.ro) (by simp) (by simp) (by simp) (by simp) (by simp)
  refine ⟨⟨?_, ?_⟩, ?_⟩
  · simp
  · intro k hk hks
    simp [hks]; omega
  · exact ⟨_, _, _, _, _, _, hS2⟩
def takeTail : IC := .seq (.regd c_log_scanner_take_r12 []) (.seq (.regd c_log_scanner_take_r13 [(7, 12)]) (.seq (.reg c_log_scanner_take_r14) .ret))
def takeCode : IFn := ⟨(.seq (.reg c_log_scanner_take_r0) (.seq (.seq (.reg c_log_scanner_take_r1) (.cond (.t 10) (.seq (.reg c_log_scanner_take_r2) .ret) .skip)) (.seq (.seq (.regd c_log_scanner_take_r3 []) (.cond (.t 20) (.seq (.reg c_log_scanner_take_r4) .ret) .skip)) (.seq (.seq (.reg c_log_scanner_take_r5) (.seq (.reg c_log_scanner_take_r6) (.cond (.t 28) (.seq (.seq (.regd c_log_scanner_take_r7 []) (.cond (.t 44) (.seq (.reg c_log_scanner_take_r8) .ret) .skip)) (.regd c_log_scanner_take_r9 [])) (.seq (.regd c_log_scanner_take_r10 []) (.cond (.t 80) (.seq (.reg c_log_scanner_take_r11) .ret) .skip))))) takeTail)))), 113, [.tmp 6]⟩
theorem fc_take : fnAt Try.prog f_log_scanner_take = some takeCode := fc_log_scanner_take
attribute [simp] takeCode
def putS (S : Sc) (ini : List Img) (x : Img) (r : Rec) : Sc := { S with opn := ini ++ [(r.2.1, x.2 ++ r.2.2.2)], part := ((r.2.2.1 + 1) % 4).toNat, full := decide (r.2.2.2.size = 24) }
def takeS (S : Sc) (r : Rec) (i : Nat) : Option Sc :=
  if r.2.2.1 = 4 then (if S.part = 0 then some (commitS S i) else none)
  else if r.2.2.1 ≠ (S.part : Int) then none
  else match S.opn.getLast? with
    | none => if r.2.2.1 = 0 then some (putS S S.opn (r.2.1, ⟨#[]⟩) r) else none
    | some x => if r.2.2.1 = 0 then (if r.2.1 ≤ x.1 then none else some (putS S S.opn (r.2.1, ⟨#[]⟩) r))
      else if x.1 ≠ r.2.1 ∨ (S.full = false ∧ r.2.2.2.size ≠ 0) then none else some (putS S S.opn.dropLast x r)
/-- What holds of a scanner all along. -/
structure ScOk (S : Sc) : Prop where
  part : S.part < 4
  some_ : S.part ≠ 0 → S.opn ≠ []
  opn : S.opn.length ≤ 1000
  done : S.done.length ≤ 1000
  size : ∀ x ∈ S.opn, x.2.size ≤ 100000
theorem take_ok {n0 sb H S} (h : SRel n0 sb H S) (hk : ScOk S) (q pg t : Int) (d : ByteArray) (ht : 0 ≤ t ∧ t ≤ 4) (hd : d.size ≤ 24) (i : Nat) (hi : i ≤ 1000) :
    wpf (call K f_log_scanner_take [.pointer (some ⟨sb, 0, none⟩), .agg #[.int .i64 q, .int .i64 pg, .int .i64 t, .string d], .int .i64 (i : Int)] H) fun v H' =>
      v = .bool (takeS S (q, pg, t, d) i).isSome ∧ Beside n0 sb H H' ∧ SRel n0 sb H' ((takeS S (q, pg, t, d) i).getD S) := by
  obtain ⟨B, D, E, vd, vo, vs, h⟩ := h
  have g1 := h.lo; have g2 := h.nD; have g3 := h.DE; have g4 := h.EH
  have hBs : Beside n0 sb H (H.add (rowBlk 4 [.int .i64 q, .int .i64 pg, .int .i64 t, .string d])) := ⟨by simp, fun b hb _ => by rw [blk_add, if_neg (by omega)]⟩
  have h' := h.add (rowBlk 4 [.int .i64 q, .int .i64 pg, .int .i64 t, .string d])
  refine open_plain rfl fc_take rfl (Nat.le_of_ble_eq_true rfl) ?_
  have n1 : sb ≠ H.next := by omega
  have n2 : sb ≠ H.next + 1 := by omega
  have n3 : sb ≠ H.next + 1 + 1 := by omega
  have hop := hk.part
  obtain ⟨p, c, hvo0, hp⟩ := h.oo.slc
  obtain ⟨n, hn⟩ : ∃ n, S.opn.length = n := ⟨_, rfl⟩
  rw [hn] at hvo0
  subst hvo0
  have hlo := hk.opn
  by_cases t4 : t = 4
  · subst t4
    obtain ⟨u, G, hc, hv, hb, hs⟩ := commit_ok h' i hi hk.done
    subst hv
    simp [hc]
    by_cases h0 : S.part = 0
    · rw [if_pos h0] at hs
      simp [takeS, h0]
      exact ⟨hBs.trans hb, hs⟩
    · rw [if_neg h0] at hs
      simp [takeS, h0]
      exact ⟨hBs.trans hb, hs⟩
  · by_cases tp : t = (S.part : Int)
    · by_cases t0 : t = 0
      · subst t0
        have hp0 : S.part = 0 := by omega
        -- the way on: a new image, then its text
        have hA : ∀ X, appV ((H.add (rowBlk 4 [.int .i64 q, .int .i64 pg, .int .i64 0, .string d])).add X) 2 24 1 (.slice p n c) [.int .i64 pg, .string ⟨#[]⟩] = some (.slice (some ⟨H.next + 1 + 1, 0, none⟩) (n + 1) (2 * (n + 1)), (killB (.slice p n c) ((H.add (rowBlk 4 [.int .i64 q, .int .i64 pg, .int .i64 0, .string d])).add X)).add (rowBlk 2 ((S.opn ++ [((pg, ⟨#[]⟩) : Img)]).flatMap encI))) := fun X => by
          rw [(h'.oo.ext ((Ext.refl _).add X)).app encI_len _ (by omega) rfl (by omega) (by omega)]
          simp [hn]
        have hk0 : ∀ X b, b < E → (killB (.slice p n c) ((H.add (rowBlk 4 [.int .i64 q, .int .i64 pg, .int .i64 0, .string d])).add X)).blk b = ((H.add (rowBlk 4 [.int .i64 q, .int .i64 pg, .int .i64 0, .string d])).add X).blk b := fun X b hb => blk_killB (h.oo.notIn hb)
        have hk1 : ∀ X, (killB (.slice p n c) ((H.add (rowBlk 4 [.int .i64 q, .int .i64 pg, .int .i64 0, .string d])).add X)).blk sb = some B := fun X => by rw [hk0 X sb (by omega), blk_add, if_neg (by simp; omega), blk_add, if_neg (by omega)]; exact h.hb
        have hk2 : ∀ X o, (killB (.slice p n c) ((H.add (rowBlk 4 [.int .i64 q, .int .i64 pg, .int .i64 0, .string d])).add X)).cell sb o = B.at_ o := fun X o => by simp only [Heap.cell, hk1]
        have on : ∀ (e : Env) (X : Blk), e 0 = .pointer (some ⟨sb, 0, none⟩) → e 4 = .pointer (some ⟨H.next, 0, none⟩) →
            wp (run K takeTail e (((killB (.slice p n c) ((H.add (rowBlk 4 [.int .i64 q, .int .i64 pg, .int .i64 0, .string d])).add X)).add (rowBlk 2 (S.opn.flatMap encI ++ [.int .i64 pg, .string ⟨#[]⟩]))).set sb (some (B.put 2 (.slice (some ⟨H.next + 1 + 1, 0, none⟩) (n + 1) (2 * (n + 1))))))) fun x e' H' =>
              isEnd x = true ∧ e' 6 = .bool true ∧ Beside n0 sb H H' ∧ SRel n0 sb H' (putS S S.opn (pg, ⟨#[]⟩) (q, pg, 0, d)) := fun e X he0 he4 => by
          have hvo : ∀ b, b < E → NotIn (.slice p n c) b := fun b hb => h.oo.notIn hb
          have hX : ∀ {α : Type} {enc : α → List Value} {sz m : Nat} {v : Value} {xs : List α} {F : Nat}, sb < m → F ≤ E → Own enc sz m H v xs → BelowB v F → Own enc sz m (((killB (.slice p n c) ((H.add (rowBlk 4 [.int .i64 q, .int .i64 pg, .int .i64 0, .string d])).add X)).add (rowBlk 2 (S.opn.flatMap encI ++ [.int .i64 pg, .string ⟨#[]⟩]))).set sb (some (B.put 2 (.slice (some ⟨H.next + 1 + 1, 0, none⟩) (n + 1) (2 * (n + 1)))))) v xs := fun hm hF ho hv => by
            refine (((ho.ext (((Ext.refl H).add _).add X)).killB hv fun b hb => hvo b (by omega)).ext ((Ext.refl _).add _)).set hm _
          have hSR : SR n0 sb (((killB (.slice p n c) ((H.add (rowBlk 4 [.int .i64 q, .int .i64 pg, .int .i64 0, .string d])).add X)).add (rowBlk 2 (S.opn.flatMap encI ++ [.int .i64 pg, .string ⟨#[]⟩]))).set sb (some (B.put 2 (.slice (some ⟨H.next + 1 + 1, 0, none⟩) (n + 1) (2 * (n + 1)))))) { S with opn := S.opn ++ [(pg, ⟨#[]⟩)] } (B.put 2 (.slice (some ⟨H.next + 1 + 1, 0, none⟩) (n + 1) (2 * (n + 1)))) D E vd (.slice (some ⟨H.next + 1 + 1, 0, none⟩) (n + 1) (2 * (n + 1))) vs :=
            { hb := by simp, ro := by simpa using h.ro, c0 := by simpa using h.c0, c1 := by simpa using h.c1, c2 := by simp, c3 := by simpa using h.c3, c4 := by simpa using h.c4, lo := g1, nD := g2, DE := g3, EH := by simp; omega,
              od := hX (by omega) (Nat.le_refl _) h.od h.bd, bd := h.bd, oe := h.oe.mono fun v xs hx => ⟨hX g1 g3 hx.1 hx.2, hx.2⟩,
              oo := by
                have hz := Own.new' (enc := encI) (sz := 2) (n0 := E) (b := H.next + 1 + 1) (H := killB (.slice p n c) ((H.add (rowBlk 4 [.int .i64 q, .int .i64 pg, .int .i64 0, .string d])).add X)) (xs := S.opn ++ [(pg, ⟨#[]⟩)]) (by simp) (by omega) (by simp; omega) rfl
                have hz2 := hz.set (k := sb) (by omega) (some (B.put 2 (.slice (some ⟨H.next + 1 + 1, 0, none⟩) (n + 1) (2 * (n + 1)))))
                simpa [hn] using hz2 }
          have hrb : (((killB (.slice p n c) ((H.add (rowBlk 4 [.int .i64 q, .int .i64 pg, .int .i64 0, .string d])).add X)).add (rowBlk 2 (S.opn.flatMap encI ++ [.int .i64 pg, .string ⟨#[]⟩]))).set sb (some (B.put 2 (.slice (some ⟨H.next + 1 + 1, 0, none⟩) (n + 1) (2 * (n + 1)))))).blk H.next = some (rowBlk 4 [.int .i64 q, .int .i64 pg, .int .i64 0, .string d]) := by
            rw [blk_set_ne (by omega), blk_add, if_neg (by simp; omega), blk_killB (h.oo.below.notIn (Nat.le_refl _)), blk_add, if_neg (by simp), blk_add, if_pos rfl]
          have hT := tail_ok hSR S.opn pg ⟨#[]⟩ d 0 rfl e H.next _ hrb rfl rfl (by omega) (fun a n c e => by cases e; simp; omega) he0 he4 (by omega) hk.opn (by show 0 ≤ 100000; omega) hd
          refine hT.mono fun x e' H' hq => ⟨hq.1, hq.2.1, ⟨?_, fun b hb hbs => ?_⟩, hq.2.2.2⟩
          · have := hq.2.2.1.next; simp at this; omega
          · rw [hq.2.2.1.blk b hb hbs, blk_set_ne hbs, blk_add, if_neg (by simp; omega), hk0 X b (by omega), blk_add, if_neg (by simp; omega), blk_add, if_neg (by omega)]
        rcases List.eq_nil_or_concat S.opn with hnil | ⟨ini, x, hcc⟩
        · have hn0 : ¬ 0 < n := by rw [← hn, hnil]; simp
          have hgl : S.opn.getLast? = none := by rw [hnil]; rfl
          simp [h.cell, h.hb, h.ro, h.c3, h.c2, n1, n2, n3, ← tp, hn0, hA, hk1, hk2]
          refine (on _ _ (by simp) (by simp)).mono fun x e' H' hq => ?_
          simp [takeS, ← tp, hgl]
          exact hq
        · rw [List.concat_eq_append] at hcc
          obtain ⟨x1, x2⟩ := x
          obtain ⟨b, B2, hv2, hbE, hbn, hB2, hro2, hat, hup⟩ := h.oo.blkOf encI_len (by rw [hcc]; simp)
          have hni : n = ini.length + 1 := by rw [← hn, hcc]; simp
          have hx : S.opn[ini.length]'(by omega) = (x1, x2) := by simp [hcc]
          have a0 := hat ini.length (by omega) 0 (by omega)
          rw [hx] at a0
          simp at a0
          rw [hn] at hv2
          cases hv2
          have hgl : S.opn.getLast? = some (x1, x2) := by rw [hcc]; simp
          have hn0 : 0 < n := by omega
          have hmn : ini.length < n := by omega
          have w1 : IntKind.i64.wrap ((n : Int) - 1) = (ini.length : Int) := by rw [wrap_i64 (by omega) (by omega)]; omega
          have nb : b ≠ H.next := by omega
          have hcb : ∀ o, H.cell b o = B2.at_ o := fun o => by simp only [Heap.cell, hB2]
          by_cases hle : pg ≤ x1
          · simp [h.cell, h.hb, h.ro, h.c3, h.c2, n1, n2, n3, ← tp, hn0, hmn, w1, nb, hcb, a0, hle, takeS, hgl]
            exact ⟨hBs, _, _, _, _, _, _, h'⟩
          · simp [h.cell, h.hb, h.ro, h.c3, h.c2, n1, n2, n3, ← tp, hn0, hmn, w1, nb, hcb, a0, hle, hA, hk1, hk2]
            refine (on _ _ (by simp) (by simp)).mono fun x e' H' hq => ?_
            simp [takeS, ← tp, hgl, hle]
            exact hq
      · have hp0 : S.part ≠ 0 := by omega
        subst tp
        have hp4 : S.part ≠ 4 := by omega
        have hne := hk.some_ hp0
        rcases List.eq_nil_or_concat S.opn with hnil | ⟨ini, x, hcc⟩
        · exact absurd hnil hne
        · rw [List.concat_eq_append] at hcc
          obtain ⟨x1, x2⟩ := x
          obtain ⟨b, B2, hv2, hbE, hbn, hB2, hro2, hat, hup⟩ := h.oo.blkOf encI_len (by rw [hcc]; simp)
          have hni : n = ini.length + 1 := by rw [← hn, hcc]; simp
          have hx : S.opn[ini.length]'(by omega) = (x1, x2) := by simp [hcc]
          have a0 := hat ini.length (by omega) 0 (by omega)
          rw [hx] at a0
          simp at a0
          rw [hn] at hv2
          cases hv2
          have hgl : S.opn.getLast? = some (x1, x2) := by rw [hcc]; simp
          have hdl : S.opn.dropLast = ini := by rw [hcc]; simp
          have hmn : ini.length < n := by omega
          have w1 : IntKind.i64.wrap ((n : Int) - 1) = (ini.length : Int) := by rw [wrap_i64 (by omega) (by omega)]; omega
          have nb : b ≠ H.next := by omega
          have hcb : ∀ o, H.cell b o = B2.at_ o := fun o => by simp only [Heap.cell, hB2]
          by_cases e1 : x1 = pg
          · subst e1
            have hT := fun e he0 he4 => tail_ok h' ini x1 x2 d (S.part : Int) hcc e H.next _ (by rw [blk_add, if_pos rfl]) rfl rfl (by omega) (h.oo.below.notIn (Nat.le_refl _)) he0 he4 (by omega) (by omega) (hk.size (x1, x2) (by rw [hcc]; simp)) hd
            have fin : ∀ e, e 0 = .pointer (some ⟨sb, 0, none⟩) → e 4 = .pointer (some ⟨H.next, 0, none⟩) → wp (run K takeTail e (H.add (rowBlk 4 [.int .i64 q, .int .i64 x1, .int .i64 (S.part : Int), .string d]))) fun x e' H' =>
                isEnd x = true ∧ e' 6 = .bool true ∧ Beside n0 sb H H' ∧ SRel n0 sb H' (putS S S.opn.dropLast (x1, x2) (q, x1, (S.part : Int), d)) := fun e he0 he4 => (hT e he0 he4).mono fun x e' H' hq => ⟨hq.1, hq.2.1, hBs.trans hq.2.2.1, by rw [hdl]; exact hq.2.2.2⟩
            by_cases e2 : S.full = true
            · simp [h.cell, h.hb, h.ro, h.c3, h.c2, h.c4, n1, n2, n3, t4, t0, hp0, hp4, hmn, w1, nb, hcb, a0, e2]
              refine (fin _ (by simp) (by simp)).mono fun x e' H' hq => ?_
              simp [takeS, hgl, t4, t0, hp0, hp4, e2]
              exact hq
            · by_cases e3 : d.size = 0
              · simp [h.cell, h.hb, h.ro, h.c3, h.c2, h.c4, n1, n2, n3, t4, t0, hp0, hp4, hmn, w1, nb, hcb, a0, e2, e3]
                refine (fin _ (by simp) (by simp)).mono fun x e' H' hq => ?_
                simp [takeS, hgl, t4, t0, hp0, hp4, e2, e3]
                exact hq
              · simp [h.cell, h.hb, h.ro, h.c3, h.c2, h.c4, n1, n2, n3, t4, t0, hp0, hp4, hmn, w1, nb, hcb, a0, e2, e3, takeS, hgl]
                exact ⟨hBs, _, _, _, _, _, _, h'⟩
          · simp [h.cell, h.hb, h.ro, h.c3, h.c2, h.c4, n1, n2, n3, t4, t0, hp0, hp4, hmn, w1, nb, hcb, a0, e1, takeS, hgl]
            exact ⟨hBs, _, _, _, _, _, _, h'⟩
    · simp [h.cell, h.c3, n1, t4, tp, takeS]
      exact ⟨hBs, _, _, _, _, _, _, h'⟩
end Go.AM
end TextR6G
section TextR6H
/- Contracts: log.Scan. -/
namespace Go.AM
open Go.Proofs
set_option linter.unusedVariables false
set_option linter.unusedSimpArgs false
set_option maxRecDepth 100000
attribute [-simp] ByteArray.size_eq_zero_iff
theorem SR.ext {n0 sb H S B D E vd vo vs} (h : SR n0 sb H S B D E vd vo vs) {H' : Heap} (hE : Ext H H') : SR n0 sb H' S B D E vd vo vs := by
  have := h.lo; have := h.nD; have := h.DE; have := h.EH; have := hE.next
  exact ⟨by rw [hE.blk sb (by omega)]; exact h.hb, h.ro, h.c0, h.c1, h.c2, h.c3, h.c4, h.lo, h.nD, h.DE, by omega, h.od.ext hE, h.bd, h.oe.mono fun v xs hx => ⟨hx.1.ext hE, hx.2⟩, h.oo.ext hE⟩
theorem SRel.ext {n0 sb H S} (h : SRel n0 sb H S) {H' : Heap} (hE : Ext H H') : SRel n0 sb H' S := by
  obtain ⟨B, D, E, vd, vo, vs, h⟩ := h
  exact ⟨B, D, E, vd, vo, vs, h.ext hE⟩
def scanGo (seq : Int) : Sc → Nat → List ByteArray → Sc
  | S, _, [] => S
  | S, i, t :: ts =>
    if (getR t).2.2.2.2 = 0 ∧ (getR t).1 = seq + i then
      match takeS S ((getR t).1, (getR t).2.1, (getR t).2.2.1, (getR t).2.2.2.1) i with
      | some S' => scanGo seq S' (i + 1) ts
      | none => S
    else S
def sc0 : Sc := ⟨[], 0, [], 0, false⟩
structure ScInv (S : Sc) (i : Nat) : Prop where
  part : S.part < 4
  some_ : S.part ≠ 0 → S.opn ≠ []
  opn : S.opn.length ≤ i
  done : S.done.length ≤ i
  used : S.used ≤ i
  size : ∀ x ∈ S.opn, x.2.size ≤ 24 * i
theorem ScInv.ok {S i} (h : ScInv S i) (hi : i ≤ 1000) : ScOk S := ⟨h.part, h.some_, by have := h.opn; omega, by have := h.done; omega, fun x hx => by have := h.size x hx; omega⟩
theorem ScInv.take {S S' : Sc} {i : Nat} {r : Rec} (h : ScInv S i) (hr : 0 ≤ r.2.2.1 ∧ r.2.2.1 ≤ 4) (hd : r.2.2.2.size ≤ 24) (ht : takeS S r i = some S') : ScInv S' (i + 1) := by
  obtain ⟨q, pg, t, d⟩ := r
  simp only at hr hd
  have h1 := h.opn; have h2 := h.done; have h3 := h.used; have h4 := h.part
  unfold takeS at ht
  split at ht
  · split at ht
    · cases ht
      exact ⟨h.part, fun hp => absurd (by assumption) hp, by simp [commitS], by simp [commitS]; omega, by simp [commitS], by simp [commitS]⟩
    · cases ht
  · split at ht
    · cases ht
    · rename_i hn4 hpt
      have ep : t = (S.part : Int) := Classical.not_not.1 hpt
      have put : ∀ (ini : List Img) (x : Img), ini.length ≤ i → (∀ y ∈ ini, y.2.size ≤ 24 * i) → x.2.size ≤ 24 * i → ScInv (putS S ini x (q, pg, t, d)) (i + 1) := fun ini x ha hb hc => by
        refine ⟨by simp only [putS]; omega, fun _ => by simp [putS], by simp [putS]; omega, by simp only [putS]; omega, by simp only [putS]; omega, fun y hy => ?_⟩
        simp only [putS, List.mem_append, List.mem_singleton] at hy
        rcases hy with hy | rfl
        · have := hb y hy; omega
        · simp; omega
      split at ht
      · split at ht
        · cases ht; exact put _ _ h1 h.size (Nat.zero_le _)
        · cases ht
      · rename_i x hx
        have hmem : x ∈ S.opn := List.mem_of_getLast? hx
        split at ht
        · split at ht
          · cases ht
          · cases ht; exact put _ _ h1 h.size (Nat.zero_le _)
        · split at ht
          · cases ht
          · cases ht
            exact put _ _ (by rw [List.length_dropLast]; omega) (fun y hy => h.size y (List.dropLast_subset _ hy)) (h.size x hmem)
theorem getR_may {s : ByteArray} (h : (getR s).2.2.2.2 = 0) : RMay (getR s).1 (getR s).2.1 (getR s).2.2.1 (getR s).2.2.2.1 := by
  unfold getR at h ⊢
  split at h
  · rename_i hc
    rw [if_pos hc]
    have := hc.2.2
    by_cases hm : RMay (recAt s).1 (recAt s).2.1 (recAt s).2.2.1 (recAt s).2.2.2
    · exact hm
    · rw [putR_no hm] at this
      have := congrArg Prod.snd this
      simp at this
  · simp at h
/-- A slice of slices of images that nobody else holds. -/
def OwnT (n0 : Nat) (H : Heap) (v : Value) (xss : List (List Img)) : Prop := ∃ vs D, n0 ≤ D ∧ Own encV 1 D H v vs ∧ All2 (fun v xs => Own encI 2 n0 H v xs ∧ BelowB v D) vs xss
theorem OwnT.txns {n0 H v xss} (h : OwnT n0 H v xss) : Txns H v xss := by
  obtain ⟨vs, D, _, h1, h2⟩ := h
  exact ⟨vs, h1.rows encV_len, h2.mono fun v xs hx => hx.1.rows encI_len⟩
def scOk (rs : List ByteArray) (seq : Int) : Prop := (1 ≤ seq ∧ seq ≤ 2147483647) ∧ rs.length ≤ 200
instance (rs : List ByteArray) (seq : Int) : Decidable (scOk rs seq) := by unfold scOk; infer_instance
def scRes (rs : List ByteArray) (seq : Int) : Sc := scanGo seq sc0 0 rs
def scTxns (rs : List ByteArray) (seq : Int) : List (List Img) := if scOk rs seq then (scRes rs seq).done else []
def scUsed (rs : List ByteArray) (seq : Int) : Nat := if scOk rs seq then (scRes rs seq).used else 0
def scNext (rs : List ByteArray) (seq : Int) : Int := if scOk rs seq then seq + (scRes rs seq).used else 0
def scErr (rs : List ByteArray) (seq : Int) : Int := if scOk rs seq then 0 else 400
theorem wpf_choose2 {C : Heap → Option (Value × Heap)} {Pre : Heap → Prop} {Q : Heap → Value → Heap → Prop} {v : Value} (h : ∀ G, Pre G → wpf (C G) fun u G' => u = v ∧ Q G u G') : ∃ fG : Heap → Heap, (∀ G, Pre G → C G = some (v, fG G)) ∧ ∀ G, Pre G → Q G v (fG G) := by
  obtain ⟨fv, fG, h1, h2⟩ := wpf_choose' h
  exact ⟨fG, fun G hG => by rw [h1 G hG, (h2 G hG).1], fun G hG => by have := (h2 G hG).2; rwa [(h2 G hG).1] at this⟩
def scanTail : IC := .seq (.regd c_log_Scan_r11 []) .ret
def scanCode : IFn := ⟨(.seq (.reg c_log_Scan_r0) (.seq (.seq (.reg c_log_Scan_r1) (.cond (.t 20) (.seq (.reg c_log_Scan_r2) .ret) .skip)) (.seq (.reg c_log_Scan_r3) (.seq (.seq (.reg c_log_Scan_r4) (.block 0 (.loop c_log_Scan_l10))) scanTail)))), 58, [.tmp 4, .tmp 5, .tmp 6, .tmp 7]⟩
theorem fc_scan : fnAt Try.prog f_log_Scan = some scanCode := fc_log_Scan
attribute [simp] scanCode
theorem scan_ok (v : Value) (rs : List ByteArray) (seq : Int) (H : Heap) (h : Strs H v rs) :
    wpf (call K f_log_Scan [v, .int .i64 seq] H) fun r H' => Ext H H' ∧ ∃ v', r = .tuple #[v', .int .i64 (scNext rs seq), .int .i64 (scUsed rs seq : Int), .int .i64 (scErr rs seq)] ∧ OwnT H.next H' v' (scTxns rs seq) := by
  obtain ⟨p, c, rfl⟩ := h.slice
  have hl := h.lim
  refine open_plain rfl fc_scan rfl (Nat.le_of_ble_eq_true rfl) ?_
  have nilT : OwnT H.next H (.slice none 0 0) [] := ⟨[], H.next, Nat.le_refl _, Own.nil, trivial⟩
  by_cases k2 : 1 ≤ seq ∧ seq ≤ 2147483647
  · by_cases k3 : rs.length ≤ 200
    · have hok : scOk rs seq := ⟨k2, k3⟩
      have k4 : ¬ (200 : Int) < (rs.length : Int) := by omega
      simp [k2, k4]
      have hS0 : SRel (H.next + 1) H.next (H.add (rowBlk 5 [.slice none 0 0, .int .i64 0, .slice none 0 0, .int .i64 0, .bool false])) sc0 :=
        ⟨rowBlk 5 [.slice none 0 0, .int .i64 0, .slice none 0 0, .int .i64 0, .bool false], H.next + 1, H.next + 1, .slice none 0 0, .slice none 0 0, [], { hb := by simp, ro := rfl, c0 := rfl, c1 := rfl, c2 := rfl, c3 := rfl, c4 := rfl, lo := by omega, nD := by omega, DE := by omega, EH := by simp, od := Own.nil, bd := BelowB.nil, oe := trivial, oo := Own.nil }⟩
      refine wp_nxt (wp_for (fun k e G => ∃ (i : Nat) (S : Sc), k = rs.length - i ∧ i ≤ rs.length ∧ Beside (H.next + 1) H.next H G ∧ e 21 = .slice p rs.length c ∧ e 22 = .int .i64 (rs.length : Int) ∧ e 23 = .int .i64 (i : Int) ∧ e 8 = .pointer (some ⟨H.next, 0, none⟩) ∧ e 1 = .int .i64 seq ∧ SRel (H.next + 1) H.next G S ∧ ScInv S i ∧ scanGo seq S i (rs.drop i) = scRes rs seq) rs.length ⟨0, sc0, by simp, by simp, ⟨by simp, fun b hb hb2 => by rw [blk_add, if_neg hb2]⟩, by simp, by simp, by simp, by simp, by simp, hS0, ⟨by simp [sc0], by simp [sc0], by simp [sc0], by simp [sc0], by simp [sc0], by simp [sc0]⟩, rfl⟩ ?_)
      rintro k e G ⟨i, S, rfl, hi, hB, h21, h22, h23, h8, h1, hS, hI, hres⟩
      have stop : ∀ (e : Env) (G' : Heap) (S' : Sc), Beside (H.next + 1) H.next H G' → SRel (H.next + 1) H.next G' S' → S'.used ≤ 1000 → S' = scRes rs seq → e 8 = .pointer (some ⟨H.next, 0, none⟩) → e 1 = .int .i64 seq →
          wp (run K scanTail e G') fun x e H' => isEnd x = true ∧ ∃ v, resAll H' e [.tmp 4, .tmp 5, .tmp 6, .tmp 7] = some v ∧ Ext H H' ∧ ∃ v', v = .tuple #[v', .int .i64 (scNext rs seq), .int .i64 (scUsed rs seq : Int), .int .i64 (scErr rs seq)] ∧ OwnT H.next H' v' (scTxns rs seq) := fun e G' S' hB' hS' hu hr he8 he1 => by
        subst hr
        obtain ⟨B, D, E, vd, vo, vs, hS'⟩ := hS'
        obtain ⟨q, d, rfl, _⟩ := hS'.od.slc
        have w : IntKind.i64.wrap (seq + ((scRes rs seq).used : Int)) = seq + ((scRes rs seq).used : Int) := wrap_i64 (by omega) (by omega)
        have g2 := hS'.nD
        simp [scanTail, he8, he1, hS'.cell, hS'.c0, hS'.c1, w, scNext, scUsed, scErr, scTxns, hok]
        have hn := hB'.next
        exact ⟨⟨by omega, fun b hb => hB'.blk b (by omega) (by omega)⟩, vs, D, by omega, hS'.od, hS'.oe.mono fun v xs hx => ⟨hx.1.low (by omega), hx.2⟩⟩
      by_cases hlt : i < rs.length
      · obtain ⟨b, o, rfl, hb, e0⟩ := h.at1 hlt
        rw [List.drop_eq_getElem_cons hlt] at hres
        simp only [scanGo] at hres
        have hm := @getR_may rs[i]
        generalize rs[i] = tx at *
        have hn := hB.next
        have n1 : b ≠ G.next := by omega
        have n2 : H.next ≠ G.next := fun e => by
          obtain ⟨B, D, E, vd, vo, vs, hS'⟩ := hS
          have := hS'.lo; have := hS'.nD; have := hS'.DE; have := hS'.EH; omega
        have hgb : ∀ o, G.cell b o = H.cell b o := fun o => by simp only [Heap.cell, hB.blk b (by omega) (by omega)]
        have w1 := wrap_succ (i := i) (by omega)
        have w2 : IntKind.i64.wrap (seq + (i : Int)) = seq + (i : Int) := wrap_i64 (by omega) (by omega)
        have hE2 : ∀ B f, Ext G ((G.add B).set G.next f) := fun B f => ((Ext.refl G).add B).set (Nat.le_refl _) f
        have hB2 : ∀ B f, Beside (H.next + 1) H.next H ((G.add B).set G.next f) := fun B f => ⟨by simp; omega, fun b hb hb2 => by rw [(hE2 B f).blk b (by omega)]; exact hB.blk b hb hb2⟩
        have hiu := hI.used
        generalize hg : getR tx = x at *
        obtain ⟨q, pg, t, d, er⟩ := x
        simp only at hres hm
        simp at e0
        by_cases c1 : er = 0
        · subst c1
          have hmay := hm rfl
          by_cases c2 : q = seq + i
          · rw [if_pos ⟨rfl, c2⟩] at hres
            subst c2
            have hdz : d.size ≤ 24 := RMay_size hmay
            have htt : 0 ≤ t ∧ t ≤ 4 := by rcases hmay.2 with hh | hh <;> omega
            obtain ⟨fG, hc, hQ⟩ := wpf_choose2 (C := call K f_log_scanner_take [.pointer (some ⟨H.next, 0, none⟩), .agg #[.int .i64 (seq + (i : Int)), .int .i64 pg, .int .i64 t, .string d], .int .i64 (i : Int)]) (Pre := Ext G) fun G0 hG0 => take_ok (hS.ext hG0) (hI.ok (by omega)) (seq + (i : Int)) pg t d htt hdz i (by omega)
            cases htk : takeS S (seq + (i : Int), pg, t, d) i with
            | none =>
              rw [htk] at hres hc hQ
              simp [c_log_Scan_l10, h21, h22, h23, h8, h1, hlt, hgb, e0, hg, valR, n1, n2, w2, hc, hE2]
              refine (stop _ _ S ((hB2 _ _).trans (hQ _ (hE2 _ _)).1) (hQ _ (hE2 _ _)).2 (by omega) hres (by simp [h8]) (by simp [h1])).mono fun x e H' hq => ?_
              simpa using hq
            | some S' =>
              rw [htk] at hres hc hQ
              simp [c_log_Scan_l10, h21, h22, h23, h8, h1, hlt, hgb, e0, hg, valR, n1, n2, w1, w2, hc, hE2]
              exact ⟨rs.length - (i + 1), by omega, i + 1, rfl, hlt, (hB2 _ _).trans (hQ _ (hE2 _ _)).1, by simp, S', (hQ _ (hE2 _ _)).2, hI.take (r := (seq + (i : Int), pg, t, d)) htt hdz htk, hres⟩
          · simp [c_log_Scan_l10, h21, h22, h23, h8, h1, hlt, hgb, e0, hg, valR, n1, n2, w2, c2]
            rw [if_neg (fun hh => c2 hh.2)] at hres
            refine (stop _ _ S (hB2 _ _) (hS.ext (hE2 _ _)) (by omega) hres (by simp [h8]) (by simp [h1])).mono fun x e H' hq => ?_
            simpa using hq
        · simp [c_log_Scan_l10, h21, h22, h23, h8, h1, hlt, hgb, e0, hg, valR, n1, n2, c1]
          rw [if_neg (fun hh => c1 hh.1)] at hres
          refine (stop _ _ S (hB2 _ _) (hS.ext (hE2 _ _)) (by omega) hres (by simp [h8]) (by simp [h1])).mono fun x e H' hq => ?_
          simpa using hq
      · obtain rfl : i = rs.length := by omega
        simp [c_log_Scan_l10, h21, h22, h23]
        have hiu := hI.used
        refine (stop _ _ S hB hS (by omega) ?_ (by simp [h8]) (by simp [h1])).mono fun x e H' hq => ?_
        · rw [← hres, List.drop_length]; rfl
        · simpa using hq
    · have hok : ¬ scOk rs seq := fun hk => k3 hk.2
      have k4 : (200 : Int) < (rs.length : Int) := by omega
      simp [k2, k4, scNext, scUsed, scErr, scTxns, hok, Ext.refl, nilT]
  · have hok : ¬ scOk rs seq := fun hk => k2 hk.1
    simp [k2, scNext, scUsed, scErr, scTxns, hok, Ext.refl, nilT]
end Go.AM
end TextR6H
section TextR6P
/- Plain laws: what is made is scanned as it was. -/
namespace Go.AM
open Go.Proofs
set_option linter.unusedVariables false
set_option linter.unusedSimpArgs false
set_option maxRecDepth 100000
attribute [-simp] ByteArray.size_eq_zero_iff
theorem partD_size (s : ByteArray) (k : Nat) : (partD s k).size = min (k * 24 + 24) s.size - min (k * 24) s.size := by
  unfold partD; rw [size_extract]; omega
theorem partD_le (s : ByteArray) (k : Nat) : (partD s k).size ≤ 24 := by rw [partD_size]; omega
theorem partD_next {s : ByteArray} {k : Nat} (h : (partD s k).size ≠ 24) : (partD s (k + 1)).size = 0 := by
  rw [partD_size] at h ⊢; omega
theorem partD_join {s : ByteArray} (h : s.size ≤ 96) : (((⟨#[]⟩ ++ partD s 0) ++ partD s 1) ++ partD s 2) ++ partD s 3 = s := by
  apply L_inj
  unfold partD
  simp only [L_append, L_extract, L_nil, List.nil_append]
  have hl := L_length s
  generalize L s = l at *
  have e : ∀ a b : Nat, a ≤ b → l.take a ++ (l.drop a).take (b - a) = l.take b := fun a b hab => by
    rw [← List.take_add, show a + (b - a) = b by omega]
  rw [show (List.drop (min (0 * 24) s.size) l).take (min (0 * 24 + 24) s.size - min (0 * 24) s.size) = l.take (min (0 * 24 + 24) s.size) by simp]
  rw [show min (1 * 24) s.size = min (0 * 24 + 24) s.size by omega, e _ _ (by omega)]
  rw [show min (2 * 24) s.size = min (1 * 24 + 24) s.size by omega, e _ _ (by omega)]
  rw [show min (3 * 24) s.size = min (2 * 24 + 24) s.size by omega, e _ _ (by omega)]
  rw [List.take_of_length_le (by omega)]
theorem getR_txt {r : Rec} (h : RMay r.1 r.2.1 r.2.2.1 r.2.2.2) : getR (txtR r) = (r.1, r.2.1, r.2.2.1, r.2.2.2, 0) := by
  unfold txtR; rw [putR_yes h]; exact get_recOf h
theorem scanGo_one {seq : Int} {S S' : Sc} {i : Nat} {r : Rec} {ts : List ByteArray} (hm : RMay r.1 r.2.1 r.2.2.1 r.2.2.2) (hs : r.1 = seq + i) (ht : takeS S r i = some S') : scanGo seq S i (txtR r :: ts) = scanGo seq S' (i + 1) ts := by
  simp only [scanGo, getR_txt hm]
  rw [if_pos ⟨trivial, hs⟩]
  show (match takeS S r i with | some S' => _ | none => _) = _
  rw [ht]
/-- Is a page behind the last image's? -/
def behind (is : List Img) (p : Int) : Prop := ∀ x, is.getLast? = some x → x.1 < p
theorem takeS_new {S : Sc} {q pg : Int} {d : ByteArray} {i : Nat} (hp : S.part = 0) (hb : behind S.opn pg) : takeS S (q, pg, 0, d) i = some { S with opn := S.opn ++ [(pg, ⟨#[]⟩ ++ d)], part := 1, full := decide (d.size = 24) } := by
  unfold takeS
  cases hg : S.opn.getLast? with
  | none => simp [hp, putS]
  | some y =>
    have := hb y hg
    have h2 : ¬ pg ≤ y.1 := by omega
    simp [hp, putS, h2]
theorem takeS_more {S : Sc} {q pg : Int} {d tx0 : ByteArray} {ini : List Img} {p i : Nat} (h0 : p ≠ 0) (h4 : p < 4) (hp : S.part = p) (ho : S.opn = ini ++ [(pg, tx0)]) (hf : S.full = true ∨ d.size = 0) :
    takeS S (q, pg, (p : Int), d) i = some { S with opn := ini ++ [(pg, tx0 ++ d)], part := (p + 1) % 4, full := decide (d.size = 24) } := by
  unfold takeS
  have e1 : ¬ ((p : Int) = 4) := by omega
  have e3 : (((p : Int) + 1) % 4).toNat = (p + 1) % 4 := by omega
  have e4 : ¬ (S.full = false ∧ ¬ d.size = 0) := by rcases hf with h | h <;> simp [h]
  rw [ho]
  simp [hp, e1, h0, putS, e3]
  simpa using e4
theorem scanGo_img {seq : Int} {S : Sc} {i : Nat} {x : Img} {s : Int} {ts : List ByteArray} (hp : S.part = 0) (hs : s = seq + i) (hq : 1 ≤ s ∧ s + 4 ≤ 2147483647) (hx : (0 ≤ x.1 ∧ x.1 < 48) ∧ x.2.size ≤ 96) (hb : behind S.opn x.1) :
    ∃ fl, scanGo seq S i ((recsOf x s).map txtR ++ ts) = scanGo seq { S with opn := S.opn ++ [x], part := 0, full := fl } (i + 4) ts := by
  obtain ⟨pg, tx⟩ := x
  simp only at hx hb
  have may : ∀ k : Nat, k < 4 → RMay (s + k) pg k (partD tx k) := fun k hk => ⟨by omega, .inr ⟨by omega, by omega, hx.1.1, hx.1.2, partD_le tx k⟩⟩
  have fl : ∀ k : Nat, (decide ((partD tx k).size = 24)) = true ∨ (partD tx (k + 1)).size = 0 := fun k => by
    by_cases h : (partD tx k).size = 24
    · left; simpa using h
    · right; exact partD_next h
  refine ⟨decide ((partD tx 3).size = 24), ?_⟩
  show scanGo seq S i (txtR (s + (0 : Nat), pg, ((0 : Nat) : Int), partD tx 0) :: txtR (s + (1 : Nat), pg, ((1 : Nat) : Int), partD tx 1) :: txtR (s + (2 : Nat), pg, ((2 : Nat) : Int), partD tx 2) :: txtR (s + (3 : Nat), pg, ((3 : Nat) : Int), partD tx 3) :: ts) = _
  have hj := partD_join hx.2
  have f0 := fl 0
  have f1 := fl 1
  have f2 := fl 2
  have m0 := may 0 (by omega)
  have m1 := may 1 (by omega)
  have m2 := may 2 (by omega)
  have m3 := may 3 (by omega)
  generalize partD tx 0 = d0 at *
  generalize partD tx (0 + 1) = d1 at *
  generalize partD tx (1 + 1) = d2 at *
  generalize partD tx (2 + 1) = d3 at *
  have t0 : takeS S (s + (0 : Nat), pg, ((0 : Nat) : Int), d0) i = _ := takeS_new hp hb
  rw [scanGo_one (r := (s + (0 : Nat), pg, ((0 : Nat) : Int), d0)) m0 (by simp; omega) t0]
  rw [scanGo_one (r := (s + (1 : Nat), pg, ((1 : Nat) : Int), d1)) m1 (by simp; omega) (takeS_more (p := 1) (by omega) (by omega) rfl rfl f0)]
  rw [scanGo_one (r := (s + (2 : Nat), pg, ((2 : Nat) : Int), d2)) m2 (by simp; omega) (takeS_more (p := 2) (by omega) (by omega) rfl rfl f1)]
  rw [scanGo_one (r := (s + (3 : Nat), pg, ((3 : Nat) : Int), d3)) m3 (by simp; omega) (takeS_more (p := 3) (by omega) (by omega) rfl rfl f2)]
  rw [hj]
theorem scanGo_all {seq : Int} {ts : List ByteArray} : ∀ (xs : List Img) (S : Sc) (i : Nat) (s last : Int), S.part = 0 → s = seq + i → 1 ≤ s → s + 4 * xs.length ≤ 2147483647 → (∀ x, S.opn.getLast? = some x → x.1 ≤ last) → imOk last xs = true →
    ∃ fl, scanGo seq S i ((recsAll xs s).map txtR ++ ts) = scanGo seq { S with opn := S.opn ++ xs, part := 0, full := fl } (i + 4 * xs.length) ts
  | [], S, i, s, last, hp, hs, h1, h2, hl, hk => ⟨S.full, by cases S; simp only at hp; subst hp; simp [recsAll]⟩
  | x :: xs, S, i, s, last, hp, hs, h1, h2, hl, hk => by
    simp [imOk] at hk
    obtain ⟨⟨k1, k2, k3⟩, k4⟩ := hk
    simp at h2
    have hb : behind S.opn x.1 := fun y hy => by have := hl y hy; omega
    obtain ⟨fl, e1⟩ := scanGo_img (x := x) (s := s) (ts := (recsAll xs (s + 4)).map txtR ++ ts) hp hs ⟨h1, by omega⟩ ⟨k2, k3⟩ hb
    obtain ⟨fl2, e2⟩ := scanGo_all (seq := seq) (ts := ts) xs { S with opn := S.opn ++ [x], part := 0, full := fl } (i + 4) (s + 4) x.1 rfl (by omega) (by omega) (by omega) (fun y hy => by simp at hy; subst hy; exact Int.le_refl _) k4
    refine ⟨fl2, ?_⟩
    rw [recsAll, List.map_append, List.append_assoc, e1, e2]
    simp only [List.append_assoc, List.singleton_append, List.length_cons]
    rw [show i + 4 + 4 * xs.length = i + 4 * (xs.length + 1) by omega]
theorem scanGo_txn {seq : Int} {S : Sc} {i : Nat} {xs : List Img} {s : Int} {ts : List ByteArray} (hp : S.part = 0) (ho : S.opn = []) (hs : s = seq + i) (hk : MkOk xs s) :
    ∃ fl, scanGo seq S i ((mkRecs xs s).map txtR ++ ts) = scanGo seq ⟨S.done ++ [xs], i + 4 * xs.length + 1, [], 0, fl⟩ (i + 4 * xs.length + 1) ts := by
  have h1 := hk.2.1; have h2 := hk.2.2
  obtain ⟨fl, e⟩ := scanGo_all (ts := txtR (s + 4 * (xs.length : Int), 0, 4, ⟨#[]⟩) :: ts) xs S i s (-1) hp hs h1.1 h2 (fun x hx => by rw [ho] at hx; cases hx) hk.1
  refine ⟨fl, ?_⟩
  rw [mkRecs, if_pos hk, List.map_append, List.append_assoc]
  show scanGo seq S i (List.map txtR (recsAll xs s) ++ (txtR (s + 4 * (xs.length : Int), 0, 4, ⟨#[]⟩) :: ts)) = _
  rw [e, scanGo_one (r := (s + 4 * (xs.length : Int), 0, 4, ⟨#[]⟩)) (S' := ⟨S.done ++ [xs], i + 4 * xs.length + 1, [], 0, fl⟩) ⟨by omega, .inl ⟨rfl, rfl, rfl⟩⟩ (by simp; omega)]
  simp [takeS, commitS, ho]
theorem scanGo_quiet {seq : Int} : ∀ (ts : List ByteArray) (S : Sc) (i : Nat), (∀ t ∈ ts, (getR t).2.2.1 ≠ 4) → (scanGo seq S i ts).done = S.done ∧ (scanGo seq S i ts).used = S.used
  | [], S, i, _ => ⟨rfl, rfl⟩
  | t :: ts, S, i, h => by
    have h0 := h t (by simp)
    rw [scanGo]
    split
    · split
      · rename_i S' ht
        have := scanGo_quiet (seq := seq) ts S' (i + 1) (fun u hu => h u (by simp [hu]))
        have hS : S'.done = S.done ∧ S'.used = S.used := by
          unfold takeS at ht
          simp only [h0, if_false] at ht
          split at ht
          · cases ht
          · split at ht
            · split at ht <;> cases ht
              exact ⟨rfl, rfl⟩
            · split at ht
              · split at ht <;> cases ht
                exact ⟨rfl, rfl⟩
              · split at ht <;> cases ht
                exact ⟨rfl, rfl⟩
        rw [this.1, this.2]; exact hS
      · exact ⟨rfl, rfl⟩
    · exact ⟨rfl, rfl⟩
theorem part_txt (r : Rec) (h : r.2.2.1 ≠ 4) : (getR (txtR r)).2.2.1 ≠ 4 := by
  by_cases hm : RMay r.1 r.2.1 r.2.2.1 r.2.2.2
  · rw [getR_txt hm]; exact h
  · unfold txtR; rw [putR_no hm]; unfold getR; rw [if_neg (fun hh => absurd hh.1 (by decide))]; simp
theorem part_recs : ∀ (xs : List Img) (s : Int), ∀ r ∈ recsAll xs s, r.2.2.1 ≠ 4
  | [], _, r, h => by cases h
  | x :: xs, s, r, h => by
    rw [recsAll, List.mem_append] at h
    rcases h with h | h
    · unfold recsOf at h
      obtain ⟨k, hk, rfl⟩ := List.mem_map.1 h
      have := List.mem_range.1 hk
      simp only [recAtI]; omega
    · exact part_recs xs (s + 4) r h
/-- What is ahead of a transaction's commit commits nothing. -/
theorem scanGo_cut {seq : Int} {S : Sc} {i : Nat} {xs : List Img} {s : Int} {k : Nat} (hk : MkOk xs s) (h : k < (mkRecs xs s).length) : (scanGo seq S i (((mkRecs xs s).map txtR).take k)).done = S.done ∧ (scanGo seq S i (((mkRecs xs s).map txtR).take k)).used = S.used := by
  apply scanGo_quiet
  intro t ht
  rw [mkRecs, if_pos hk] at h ht
  simp at h
  rw [List.map_append, List.take_append_of_le_length (by simp; omega)] at ht
  have ht := List.mem_of_mem_take ht
  obtain ⟨r, hr, rfl⟩ := List.mem_map.1 ht
  exact part_txt r (part_recs _ _ r hr)
theorem mkRecs_len {xs : List Img} {s : Int} (hk : MkOk xs s) : (mkRecs xs s).length = 4 * xs.length + 1 := by rw [mkRecs, if_pos hk]; simp [recsAll_len]
end Go.AM
end TextR6P
section TextR6I
/- Contracts: the document's scan. -/
namespace Go.AM
open Go.Proofs
set_option linter.unusedVariables false
set_option linter.unusedSimpArgs false
set_option maxRecDepth 100000
attribute [-simp] ByteArray.size_eq_zero_iff
@[simp] theorem rget_ok (s : ByteArray) (H : Heap) : call K f_ref1_GetRecord [.string s] H = some (valR (getR s), H) := by
  refine of_wpf (open_pure rfl fc_ref1_GetRecord rfl (Nat.le_of_ble_eq_true rfl) ?_)
  have w : ∀ i, IntKind.i64.wrap (bt s i) = bt s i := fun i => wrap_i64 (by have := bt_range s i; omega) (by have := bt_range s i; omega)
  have hr := bt_range s 6
  unfold getR valR
  by_cases h1 : s.size = 32
  · by_cases h2 : bt s 6 ≤ 24
    · obtain ⟨k, hk⟩ := Int.eq_ofNat_of_zero_le (show 0 ≤ 8 + bt s 6 by omega)
      have e1 : IntKind.i64.wrap (8 + bt s 6) = (k : Int) := by rw [wrap_i64 (by omega) (by omega)]; exact hk
      have e0 : (8 + bt s 6).toNat = k := by omega
      have e2 : 8 ≤ k ∧ k ≤ 32 := by omega
      have e3 : slsV s (some (.int .i64 8)) (some (.int .i64 (k : Int))) = some (.string (s.extract 8 k)) := by simp [slsV, bound, natOf, h1, e2]
      have h2' : ¬ 24 < bt s 6 := by omega
      by_cases h3 : RMay (num4 s) (bt s 4) (bt s 5) (s.extract 8 k)
      · by_cases h4 : recOf (num4 s) (bt s 4) (bt s 5) (s.extract 8 k) = s
        · simp [h1, h2, h2', w, natOf, e0, e1, e3, recAt, putR, h3, h4]
        · simp [h1, h2, h2', w, natOf, e0, e1, e3, recAt, putR, h3, h4]
      · simp [h1, h2, h2', w, natOf, e0, e1, e3, recAt, putR, h3]
    · have h2' : 24 < bt s 6 := by omega
      simp [h1, h2, h2', w, natOf]
  · have h1' : ¬ ((s.size : Int) = 32) := by omega
    simp [h1, h1']
def oneGo (seq : Int) : List Img → Nat → List ByteArray → Option (List Img × Nat)
  | _, _, [] => none
  | is, k, t :: ts =>
    if (getR t).2.2.2.2 = 0 ∧ (getR t).1 = seq + k then
      if (getR t).2.2.1 = 4 ∧ k % 4 = 0 then some (is, k + 1)
      else if (getR t).2.2.1 = ((k % 4 : Nat) : Int) then
        match is.getLast? with
        | none => if k % 4 = 0 then oneGo seq (is ++ [((getR t).2.1, (getR t).2.2.2.1)]) (k + 1) ts else none
        | some x =>
          if k % 4 = 0 then (if (getR t).2.1 ≤ x.1 then none else oneGo seq (is ++ [((getR t).2.1, (getR t).2.2.2.1)]) (k + 1) ts)
          else if x.1 ≠ (getR t).2.1 ∨ ((getR t).2.2.2.1.size ≠ 0 ∧ x.2.size ≠ k % 4 * 24) then none
          else oneGo seq (is.dropLast ++ [((getR t).2.1, x.2 ++ (getR t).2.2.2.1)]) (k + 1) ts
      else none
    else none
structure OneInv (is : List Img) (k : Nat) : Prop where
  some_ : k % 4 ≠ 0 → is ≠ []
  len : is.length ≤ k
  size : ∀ x ∈ is, x.2.size ≤ 24 * k
def oneOut (r : Option (List Img × Nat)) (n0 : Nat) (H : Heap) (v : Value) : Prop := match r with
  | some (is, n) => ∃ v', v = .tuple #[v', .int .i64 (n : Int)] ∧ Own encI 2 n0 H v' is
  | none => v = .tuple #[.slice none 0 0, .int .i64 0]
theorem one_ok (v : Value) (rs : List ByteArray) (seq : Int) (H : Heap) (h : Strs H v rs) (hs : 1 ≤ seq ∧ seq ≤ 9223372036854775000) (hlen : rs.length ≤ 200) :
    wpf (call K f_ref1_one [v, .int .i64 seq] H) fun r H' => Ext H H' ∧ oneOut (oneGo seq [] 0 rs) H.next H' r := by
  obtain ⟨p, c, rfl⟩ := h.slice
  refine open_plain rfl fc_ref1_one rfl (Nat.le_of_ble_eq_true rfl) ?_
  simp
  refine wp_nxt (wp_for (fun d e G => ∃ (k : Nat) (is : List Img), d = rs.length - k ∧ k ≤ rs.length ∧ Ext H G ∧ e 0 = .slice p rs.length c ∧ e 1 = .int .i64 seq ∧ e 7 = .int .i64 (k : Int) ∧ Own encI 2 H.next G (e 6) is ∧ OneInv is k ∧ oneGo seq is k (rs.drop k) = oneGo seq [] 0 rs) rs.length ⟨0, [], by simp, by simp, Ext.refl _, by simp, by simp, by simp, by simp [Own.nil], ⟨by simp, by simp, by simp⟩, rfl⟩ ?_)
  rintro d e G ⟨k, is, rfl, hk, hE, h0, h1, h7, ho, hI, hres⟩
  by_cases hlt : k < rs.length
  · obtain ⟨b, o, rfl, hb, e0⟩ := h.at1 hlt
    rw [List.drop_eq_getElem_cons hlt] at hres
    simp only [oneGo] at hres
    have hm := @getR_may rs[k]
    generalize rs[k] = tx at *
    have hn := hE.next
    have n1 : b ≠ G.next := by omega
    rw [← hE.cell (o := _) hb] at e0
    have w1 := wrap_succ (i := k) (by omega)
    have w2 : IntKind.i64.wrap (seq + (k : Int)) = seq + (k : Int) := wrap_i64 (by omega) (by omega)
    have hE2 : ∀ B f, Ext G ((G.add B).set G.next f) := fun B f => ((Ext.refl G).add B).set (Nat.le_refl _) f
    generalize hg : getR tx = x at *
    obtain ⟨q, pg, t, d, er⟩ := x
    simp only at hres hm
    simp at e0
    obtain ⟨m, hm4⟩ : ∃ m : Nat, m = k % 4 := ⟨_, rfl⟩
    have w4 : binV K.P .rem tyInt (.int .i64 (k : Int)) (.int .i64 4) = some (.int .i64 (m : Int)) := by
      rw [binV_rem _ _ _ _ _ (by omega), Int.tmod_eq_emod_of_nonneg (by omega)]; congr 2; omega
    rw [← hm4] at hres
    have hcell : ∀ (e : Env), True := fun _ => trivial
    by_cases c1 : er = 0
    · subst c1
      have hmay := hm rfl
      by_cases c2 : q = seq + k
      · rw [if_pos ⟨rfl, c2⟩] at hres
        subst c2
        have hdz : d.size ≤ 24 := RMay_size hmay
        by_cases c3 : t = 4 ∧ m = 0
        · obtain ⟨rfl, hm0⟩ := c3
          subst hm0
          rw [if_pos ⟨rfl, rfl⟩] at hres
          rw [← hres]
          have nt : ∀ w', e 6 ≠ .tuple w' := fun w' hw => by
            obtain ⟨p, c, hv, _⟩ := ho.slc; rw [hw] at hv; cases hv
          obtain ⟨p6, c6, h6, _⟩ := ho.slc
          rw [h6] at ho
          simp [c_ref1_one_l19, h0, h1, h7, h6, hlt, e0, hg, valR, n1, w1, w2, w4, oneOut]
          exact ⟨hE.trans (hE2 _ _), ho.ext (hE2 _ _)⟩
        · rw [if_neg c3] at hres
          by_cases c4 : t = (m : Int)
          · rw [if_pos c4] at hres
            subst c4
            have m4 : m < 4 := by omega
            have m4' : ¬ (m : Int) = 4 := by omega
            have hlen1 := hI.len
            obtain ⟨n, hn0⟩ : ∃ n, is.length = n := ⟨_, rfl⟩
            obtain ⟨p6, c6, h6, _⟩ := ho.slc
            rw [h6] at ho
            rw [hn0] at h6 ho
            -- a new image
            have hA : ∀ B f X, appV (((G.add B).set G.next f).add X) 2 24 1 (.slice p6 n c6) [.int .i64 pg, .string d] = some (.slice (some ⟨G.next + 1 + 1, 0, none⟩) (n + 1) (2 * (n + 1)), (killB (.slice p6 n c6) (((G.add B).set G.next f).add X)).add (rowBlk 2 ((is ++ [((pg, d) : Img)]).flatMap encI))) := fun B f X => by
              rw [((ho.ext (hE2 B f)).ext ((Ext.refl _).add X)).app encI_len _ (by omega) rfl (by omega) (by omega)]
              simp [hn0]
            have grow : ∀ B f X, m = 0 → Ext H ((killB (.slice p6 n c6) (((G.add B).set G.next f).add X)).add (rowBlk 2 (is.flatMap encI ++ [.int .i64 pg, .string d]))) ∧ Own encI 2 H.next ((killB (.slice p6 n c6) (((G.add B).set G.next f).add X)).add (rowBlk 2 (is.flatMap encI ++ [.int .i64 pg, .string d]))) (.slice (some ⟨G.next + 1 + 1, 0, none⟩) (n + 1) (2 * (n + 1))) (is ++ [(pg, d)]) ∧ OneInv (is ++ [(pg, d)]) (k + 1) := fun B f X hm0 => by
              refine ⟨((ho.ext (hE2 B f)).ext_kill (Nat.le_refl _) ((hE.trans (hE2 B f)).add X)).add _, ?_, ⟨fun _ => by simp, by simp; omega, fun y hy => ?_⟩⟩
              · have hz := Own.new' (enc := encI) (sz := 2) (n0 := H.next) (b := G.next + 1 + 1) (H := killB (.slice p6 n c6) (((G.add B).set G.next f).add X)) (xs := is ++ [(pg, d)]) (by simp) (by omega) (by simp; omega) rfl
                simpa [hn0] using hz
              · rcases List.mem_append.1 hy with hy | hy
                · have := hI.size y hy; omega
                · have e := List.mem_singleton.1 hy; subst e; show d.size ≤ _; omega
            by_cases m0 : m = 0
            · subst m0
              rcases List.eq_nil_or_concat is with hnil | ⟨ini, x, hcc⟩
              · have hgl : is.getLast? = none := by rw [hnil]; rfl
                have hn0' : ¬ 0 < n := by rw [← hn0, hnil]; simp
                rw [hgl] at hres
                simp at hres
                simp [c_ref1_one_l19, h0, h1, h7, h6, hlt, e0, hg, valR, n1, w1, w2, w4, hn0', hA]
                exact ⟨rs.length - (k + 1), by omega, k + 1, rfl, hlt, (grow _ _ _ rfl).1, by simp, is ++ [(pg, d)], (grow _ _ _ rfl).2.1, (grow (rowBlk 0 []) none (rowBlk 0 []) rfl).2.2, hres⟩
              · rw [List.concat_eq_append] at hcc
                obtain ⟨x1, x2⟩ := x
                obtain ⟨b2, B2, hv2, hbE, hbn, hB2, hro2, hat, hup⟩ := ho.blkOf encI_len (by rw [hcc]; simp)
                have hni : n = ini.length + 1 := by rw [← hn0, hcc]; simp
                have hx : is[ini.length]'(by omega) = (x1, x2) := by simp [hcc]
                have a0 := hat ini.length (by omega) 0 (by omega)
                rw [hx] at a0
                simp at a0
                rw [hn0] at hv2
                cases hv2
                have hgl : is.getLast? = some (x1, x2) := by rw [hcc]; simp
                have hn0' : 0 < n := by omega
                have hmn : ini.length < n := by omega
                have w5 : IntKind.i64.wrap ((n : Int) - 1) = (ini.length : Int) := by rw [wrap_i64 (by omega) (by omega)]; omega
                have nb : b2 ≠ G.next := by omega
                have hcb : ∀ o, G.cell b2 o = B2.at_ o := fun o => by simp only [Heap.cell, hB2]
                rw [hgl] at hres
                simp at hres
                by_cases hle : pg ≤ x1
                · rw [if_pos hle] at hres
                  rw [← hres]
                  simp [c_ref1_one_l19, h0, h1, h7, h6, hlt, e0, hg, valR, n1, w1, w2, w4, hn0', hmn, w5, nb, hcb, a0, hle, oneOut]
                  exact hE.trans (hE2 _ _)
                · rw [if_neg hle] at hres
                  simp [c_ref1_one_l19, h0, h1, h7, h6, hlt, e0, hg, valR, n1, w1, w2, w4, hn0', hmn, w5, nb, hcb, a0, hle, hA]
                  exact ⟨rs.length - (k + 1), by omega, k + 1, rfl, hlt, (grow _ _ _ rfl).1, by simp, is ++ [(pg, d)], (grow _ _ _ rfl).2.1, (grow (rowBlk 0 []) none (rowBlk 0 []) rfl).2.2, hres⟩
            · rw [hm4] at m0
              rcases List.eq_nil_or_concat is with hnil | ⟨ini, x, hcc⟩
              · exact absurd hnil (hI.some_ m0)
              · rw [← hm4] at m0
                rw [List.concat_eq_append] at hcc
                obtain ⟨x1, x2⟩ := x
                obtain ⟨b2, B2, hv2, hbE, hbn, hB2, hro2, hat, hup⟩ := ho.blkOf encI_len (by rw [hcc]; simp)
                have hni : n = ini.length + 1 := by rw [← hn0, hcc]; simp
                have hx : is[ini.length]'(by omega) = (x1, x2) := by simp [hcc]
                have a0 := hat ini.length (by omega) 0 (by omega)
                have a1 := hat ini.length (by omega) 1 (by omega)
                rw [hx] at a0 a1
                simp at a0 a1
                rw [hn0] at hv2
                cases hv2
                have hgl : is.getLast? = some (x1, x2) := by rw [hcc]; simp
                have hdl : is.dropLast = ini := by rw [hcc]; simp
                have hmn : ini.length < n := by omega
                have m0p : 0 < m := by omega
                have w5 : IntKind.i64.wrap ((n : Int) - 1) = (ini.length : Int) := by rw [wrap_i64 (by omega) (by omega)]; omega
                obtain ⟨z, hz⟩ : ∃ z : Nat, z = m * 24 := ⟨_, rfl⟩
                have w6 : IntKind.i64.wrap ((m : Int) * 24) = (z : Int) := by rw [wrap_i64 (by omega) (by omega)]; omega
                rw [← hz] at hres
                have nb : b2 ≠ G.next := by omega
                have hcb : ∀ o, G.cell b2 o = B2.at_ o := fun o => by simp only [Heap.cell, hB2]
                have x2s := hI.size (x1, x2) (by rw [hcc]; simp)
                simp only at x2s
                have w7 : binV K.P .add tyStr (.string x2) (.string d) = some (.string (x2 ++ d)) := binV_sadd _ _ _ _ (by omega)
                rw [hgl, hdl] at hres
                simp [m0] at hres
                have updo : ∀ B f, x1 = pg → Ext H (((G.add B).set G.next f).set b2 (some (B2.put (ini.length * 2 + 1) (.string (x2 ++ d))))) ∧ Own encI 2 H.next (((G.add B).set G.next f).set b2 (some (B2.put (ini.length * 2 + 1) (.string (x2 ++ d))))) (.slice (some ⟨b2, 0, none⟩) n (2 * n)) (ini ++ [(pg, x2 ++ d)]) ∧ OneInv (ini ++ [(pg, x2 ++ d)]) (k + 1) := fun B f hpg => by
                  subst hpg
                  refine ⟨(hE.trans (hE2 B f)).set hbE _, ?_, ⟨fun _ => by simp, by simp; omega, fun y hy => ?_⟩⟩
                  · obtain ⟨b3, B3, hv3, _, _, hB3, _, _, hup3⟩ := (ho.ext (hE2 B f)).blkOf encI_len (by rw [hcc]; simp)
                    rw [hn0] at hv3
                    cases hv3
                    rw [(hE2 B f).blk b2 hbn, hB2] at hB3
                    cases hB3
                    have hO := hup3 ini.length 1 (by omega) (by omega) (x1, x2 ++ d) (.string (x2 ++ d)) (fun r hr => by
                      rw [hx]; match r, hr with
                      | 0, _ => rfl
                      | 1, _ => rfl)
                    have hset : is.set ini.length (x1, x2 ++ d) = ini ++ [(x1, x2 ++ d)] := by rw [hcc]; simp
                    rw [hset] at hO
                    exact hO
                  · rcases List.mem_append.1 hy with hy | hy
                    · have := hI.size y (by rw [hcc]; exact List.mem_append_left _ hy); omega
                    · have e := List.mem_singleton.1 hy; subst e; show (x2 ++ d).size ≤ _; rw [size_append]; omega
                by_cases c5 : x1 = pg
                · by_cases c6 : d.size = 0
                  · simp [c5, c6] at hres
                    have c5' := c5.symm
                    simp [c_ref1_one_l19, h0, h1, h7, h6, hlt, e0, hg, valR, n1, w1, w2, w4, m0, m0p, m4', hmn, w5, w6, w7, nb, hcb, hB2, hro2, a0, a1, c5, c6]
                    exact ⟨rs.length - (k + 1), by omega, k + 1, rfl, hlt, (updo _ _ c5).1, by simp, ini ++ [(pg, x2 ++ d)], (updo _ _ c5).2.1, (updo (rowBlk 0 []) none c5).2.2, hres⟩
                  · by_cases c7 : x2.size = z
                    · simp [c5, c6, c7] at hres
                      simp [c_ref1_one_l19, h0, h1, h7, h6, hlt, e0, hg, valR, n1, w1, w2, w4, m0, m0p, m4', hmn, w5, w6, w7, nb, hcb, hB2, hro2, a0, a1, c5, c6, c7]
                      exact ⟨rs.length - (k + 1), by omega, k + 1, rfl, hlt, (updo _ _ c5).1, by simp, ini ++ [(pg, x2 ++ d)], (updo _ _ c5).2.1, (updo (rowBlk 0 []) none c5).2.2, hres⟩
                    · simp [c5, c6, c7] at hres
                      rw [← hres]
                      simp [c_ref1_one_l19, h0, h1, h7, h6, hlt, e0, hg, valR, n1, w1, w2, w4, m0, m0p, m4', hmn, w5, w6, w7, nb, hcb, a0, a1, c5, c6, c7, oneOut]
                      exact hE.trans (hE2 _ _)
                · simp [c5] at hres
                  rw [← hres]
                  have c5' : ¬ pg = x1 := fun e => c5 e.symm
                  simp [c_ref1_one_l19, h0, h1, h7, h6, hlt, e0, hg, valR, n1, w1, w2, w4, m0, m0p, m4', hmn, w5, w6, nb, hcb, a0, a1, c5, c5', oneOut]
                  exact hE.trans (hE2 _ _)
          · rw [if_neg c4] at hres
            rw [← hres]
            have c3' : t = 4 → ¬ m = 0 := fun h1 h2 => c3 ⟨h1, h2⟩
            by_cases t4 : t = 4
            · have := c3' t4
              subst t4
              simp [c_ref1_one_l19, h0, h1, h7, hlt, e0, hg, valR, n1, w1, w2, w4, oneOut, c4, this]
              exact hE.trans (hE2 _ _)
            · simp [c_ref1_one_l19, h0, h1, h7, hlt, e0, hg, valR, n1, w1, w2, w4, oneOut, c4, t4]
              exact hE.trans (hE2 _ _)
      · rw [if_neg (fun hh => c2 hh.2)] at hres
        rw [← hres]
        simp [c_ref1_one_l19, h0, h1, h7, hlt, e0, hg, valR, n1, w2, c2, oneOut]
        exact hE.trans (hE2 _ _)
    · rw [if_neg (fun hh => c1 hh.1)] at hres
      rw [← hres]
      simp [c_ref1_one_l19, h0, h1, h7, hlt, e0, hg, valR, n1, c1, oneOut]
      exact hE.trans (hE2 _ _)
  · obtain rfl : k = rs.length := by omega
    rw [List.drop_length] at hres
    rw [← hres]
    simp [c_ref1_one_l19, h0, h1, h7, oneGo, oneOut]
    exact hE
end Go.AM
end TextR6I
section TextR6J
/- Plain laws: the document's scan and the scanner agree. -/
namespace Go.AM
open Go.Proofs
set_option linter.unusedVariables false
set_option linter.unusedSimpArgs false
set_option maxRecDepth 100000
attribute [-simp] ByteArray.size_eq_zero_iff
/-- A scanner within a transaction that begins at a place, k records on. -/
structure Agree (S : Sc) (is : List Img) (k : Nat) : Prop where
  opn : S.opn = is
  part : S.part = k % 4
  some_ : k % 4 ≠ 0 → is ≠ []
  full : k % 4 ≠ 0 → ∀ x, is.getLast? = some x → (S.full = true ↔ x.2.size = k % 4 * 24) ∧ x.2.size ≤ k % 4 * 24
theorem agree {seq : Int} {a : Nat} : ∀ (ts : List ByteArray) (S : Sc) (is : List Img) (k : Nat), Agree S is k →
    (∀ is' n, oneGo (seq + a) is k ts = some (is', n) → ∃ j fl, n = k + (j + 1) ∧ j < ts.length ∧ scanGo seq S (a + k) ts = scanGo seq ⟨S.done ++ [is'], a + n, [], 0, fl⟩ (a + n) (ts.drop (j + 1))) ∧
    (oneGo (seq + a) is k ts = none → (scanGo seq S (a + k) ts).done = S.done ∧ (scanGo seq S (a + k) ts).used = S.used)
  | [], S, is, k, h => ⟨fun is' n hn => by simp [oneGo] at hn, fun _ => ⟨rfl, rfl⟩⟩
  | t :: ts, S, is, k, h => by
    have hm := @getR_may t
    rw [oneGo, scanGo]
    generalize getR t = x at *
    obtain ⟨q, pg, p, d, er⟩ := x
    simp only at hm ⊢
    by_cases c1 : er = 0 ∧ q = seq + a + k
    · have c1' : er = 0 ∧ q = seq + ((a + k : Nat) : Int) := ⟨c1.1, by rw [c1.2]; omega⟩
      rw [if_pos c1, if_pos c1']
      have hmay := hm c1.1
      have hdz := RMay_size hmay
      obtain ⟨m, hm4⟩ : ∃ m, m = k % 4 := ⟨_, rfl⟩
      have hpart := h.part
      have hfull := h.full
      have hsome := h.some_
      rw [← hm4] at hpart hfull hsome ⊢
      have hm4l : m < 4 := by omega
      have goOn : ∀ (S' : Sc) (is2 : List Img), takeS S (q, pg, p, d) (a + k) = some S' → S'.done = S.done → S'.used = S.used → Agree S' is2 (k + 1) →
          (∀ is' n, oneGo (seq + a) is2 (k + 1) ts = some (is', n) → ∃ j fl, n = k + (j + 1) ∧ j < (t :: ts).length ∧ (match takeS S (q, pg, p, d) (a + k) with | some S' => scanGo seq S' (a + k + 1) ts | none => S) = scanGo seq ⟨S.done ++ [is'], a + n, [], 0, fl⟩ (a + n) ((t :: ts).drop (j + 1))) ∧
          (oneGo (seq + a) is2 (k + 1) ts = none → (match takeS S (q, pg, p, d) (a + k) with | some S' => scanGo seq S' (a + k + 1) ts | none => S).done = S.done ∧ (match takeS S (q, pg, p, d) (a + k) with | some S' => scanGo seq S' (a + k + 1) ts | none => S).used = S.used) := fun S' is2 htk hd hu hA => by
        obtain ⟨g1, g2⟩ := agree (seq := seq) (a := a) ts S' is2 (k + 1) hA
        rw [htk]
        simp only
        refine ⟨fun is' n hn => ?_, fun hn => ?_⟩
        · obtain ⟨j, fl, e1, e2, e3⟩ := g1 is' n hn
          refine ⟨j + 1, fl, by omega, by simp; omega, ?_⟩
          rw [show a + k + 1 = a + (k + 1) by omega, e3, hd, List.drop_succ_cons]
        · have := g2 hn
          rw [show a + k + 1 = a + (k + 1) by omega, this.1, this.2, hd, hu]
          exact ⟨rfl, rfl⟩
      have stop : takeS S (q, pg, p, d) (a + k) = none → (match takeS S (q, pg, p, d) (a + k) with | some S' => scanGo seq S' (a + k + 1) ts | none => S).done = S.done ∧ (match takeS S (q, pg, p, d) (a + k) with | some S' => scanGo seq S' (a + k + 1) ts | none => S).used = S.used := fun htk => by rw [htk]; exact ⟨rfl, rfl⟩
      by_cases c2 : p = 4 ∧ m = 0
      · rw [if_pos c2]
        have htk : takeS S (q, pg, p, d) (a + k) = some (commitS S (a + k)) := by
          unfold takeS; simp only; rw [if_pos c2.1, if_pos (by omega)]
        refine ⟨fun is' n hn => ?_, fun hn => by cases hn⟩
        cases hn
        refine ⟨0, S.full, rfl, by simp, ?_⟩
        rw [htk]
        simp only [commitS, h.opn]
        rw [show a + (k + 1) = a + k + 1 by omega, show S.part = 0 by omega]
        rfl
      · rw [if_neg c2]
        by_cases c3 : p = (m : Int)
        · rw [if_pos c3]
          have hp4 : ¬ p = 4 := by omega
          have hps : p = (S.part : Int) := by omega
          have emp : (⟨#[]⟩ : ByteArray) ++ d = d := by apply L_inj; rw [L_append, L_nil, List.nil_append]
          have newA : m = 0 → Agree (putS S S.opn (pg, ⟨#[]⟩) (q, pg, p, d)) (is ++ [(pg, d)]) (k + 1) := fun hm0 => by
            refine ⟨?_, ?_, fun _ => by simp, fun _ y hy => ?_⟩
            · simp only [putS, h.opn, emp]
            · simp only [putS]; omega
            · rw [List.getLast?_concat] at hy; cases hy
              rw [show (k + 1) % 4 = 1 by omega]
              exact ⟨by simp [putS], hdz⟩
          cases hgl : is.getLast? with
          | none =>
            simp only
            by_cases hm0 : m = 0
            · rw [if_pos hm0]
              refine goOn (putS S S.opn (pg, ⟨#[]⟩) (q, pg, p, d)) _ ?_ rfl rfl (newA hm0)
              unfold takeS; simp only
              rw [if_neg hp4, if_neg (fun e => e hps), h.opn, hgl]
              simp only
              rw [if_pos (by omega)]
            · have := hsome hm0
              rw [List.getLast?_eq_none_iff] at hgl
              exact absurd hgl this
          | some x =>
            simp only
            by_cases hm0 : m = 0
            · rw [if_pos hm0]
              by_cases hle : pg ≤ x.1
              · rw [if_pos hle]
                refine ⟨fun is' n hn => (by cases hn), fun _ => stop ?_⟩
                unfold takeS; simp only
                rw [if_neg hp4, if_neg (fun e => e hps), h.opn, hgl]
                simp only
                rw [if_pos (by omega), if_pos hle]
              · rw [if_neg hle]
                refine goOn (putS S S.opn (pg, ⟨#[]⟩) (q, pg, p, d)) _ ?_ rfl rfl (newA hm0)
                unfold takeS; simp only
                rw [if_neg hp4, if_neg (fun e => e hps), h.opn, hgl]
                simp only
                rw [if_pos (by omega), if_neg hle]
            · rw [if_neg hm0]
              obtain ⟨hf1, hf2⟩ := hfull hm0 x hgl
              have hcond : (x.1 ≠ pg ∨ (d.size ≠ 0 ∧ x.2.size ≠ m * 24)) ↔ (x.1 ≠ pg ∨ (S.full = false ∧ d.size ≠ 0)) := by
                constructor
                · rintro (h1 | ⟨h1, h2⟩)
                  · exact .inl h1
                  · refine .inr ⟨?_, h1⟩
                    cases hS : S.full
                    · rfl
                    · exact absurd (hf1.1 hS) h2
                · rintro (h1 | ⟨h1, h2⟩)
                  · exact .inl h1
                  · refine .inr ⟨h2, fun h3 => ?_⟩
                    rw [hf1.2 h3] at h1; cases h1
              by_cases hc : x.1 ≠ pg ∨ (d.size ≠ 0 ∧ x.2.size ≠ m * 24)
              · rw [if_pos hc]
                refine ⟨fun is' n hn => (by cases hn), fun _ => stop ?_⟩
                unfold takeS; simp only
                rw [if_neg hp4, if_neg (fun e => e hps), h.opn, hgl]
                simp only
                rw [if_neg (by omega), if_pos (hcond.1 hc)]
              · rw [if_neg hc]
                refine goOn (putS S S.opn.dropLast x (q, pg, p, d)) _ ?_ rfl rfl ?_
                · unfold takeS; simp only
                  rw [if_neg hp4, if_neg (fun e => e hps), h.opn, hgl]
                  simp only
                  rw [if_neg (by omega), if_neg (fun hh => hc (hcond.2 hh))]
                · refine ⟨?_, ?_, fun _ => by simp, fun hk1 y hy => ?_⟩
                  · simp only [putS, h.opn]
                  · simp only [putS]; omega
                  · rw [List.getLast?_concat] at hy; cases hy
                    have e1 : (k + 1) % 4 = m + 1 := by omega
                    rw [e1]
                    simp only [putS, size_append, decide_eq_true_eq]
                    have hno : ¬ (d.size ≠ 0 ∧ x.2.size ≠ m * 24) := fun hh => hc (.inr hh)
                    omega
        · rw [if_neg c3]
          refine ⟨fun is' n hn => (by cases hn), fun _ => stop ?_⟩
          unfold takeS; simp only
          by_cases hp4 : p = 4
          · rw [if_pos hp4, if_neg (fun h0 => c2 ⟨hp4, by omega⟩)]
          · rw [if_neg hp4, if_pos (fun e => c3 (by rw [e, hpart]))]
    · have c1' : ¬ (er = 0 ∧ q = seq + ((a + k : Nat) : Int)) := fun hh => c1 ⟨hh.1, by rw [hh.2]; omega⟩
      rw [if_neg c1, if_neg c1']
      exact ⟨fun is' n hn => (by cases hn), fun _ => ⟨rfl, rfl⟩⟩
end Go.AM
end TextR6J
section TextR6L
/- Contracts: the document's Scan. -/
namespace Go.AM
open Go.Proofs
set_option linter.unusedVariables false
set_option linter.unusedSimpArgs false
set_option maxRecDepth 100000
attribute [-simp] ByteArray.size_eq_zero_iff
theorem rscan_ok (v : Value) (rs : List ByteArray) (seq : Int) (H : Heap) (h : Strs H v rs) (hz : EszOk H 1 v) :
    wpf (call K f_ref1_Scan [v, .int .i64 seq] H) fun r H' => Ext H H' ∧ ∃ v', r = .tuple #[v', .int .i64 (scNext rs seq), .int .i64 (scUsed rs seq : Int), .int .i64 (scErr rs seq)] ∧ OwnT H.next H' v' (scTxns rs seq) := by
  obtain ⟨p, c, rfl⟩ := h.slice
  have hl := h.lim
  refine open_plain rfl fc_ref1_Scan rfl (Nat.le_of_ble_eq_true rfl) ?_
  have nilT : OwnT H.next H (.slice none 0 0) [] := ⟨[], H.next, Nat.le_refl _, Own.nil, trivial⟩
  by_cases k2 : 1 ≤ seq ∧ seq ≤ 2147483647
  · by_cases k3 : rs.length ≤ 200
    · have hok : scOk rs seq := ⟨k2, k3⟩
      have k4 : ¬ (200 : Int) < (rs.length : Int) := by omega
      simp [k2, k4]
      refine wp_for (fun d e G => ∃ (a : Nat) (tss : List (List Img)) (vs : List Value) (D : Nat) (fl : Bool), d = rs.length - a ∧ a ≤ rs.length ∧ Ext H G ∧ e 0 = .slice p rs.length c ∧ e 1 = .int .i64 seq ∧ e 9 = .int .i64 (a : Int) ∧ H.next ≤ D ∧ D ≤ G.next ∧ Own encV 1 D G (e 8) vs ∧ All2 (fun v xs => Own encI 2 H.next G v xs ∧ BelowB v D) vs tss ∧ tss.length ≤ a ∧ scanGo seq ⟨tss, a, [], 0, fl⟩ a (rs.drop a) = scRes rs seq) rs.length ⟨0, [], [], H.next, false, by simp, by simp, Ext.refl _, by simp, by simp, by simp, Nat.le_refl _, Nat.le_refl _, by simp [Own.nil], trivial, by simp, rfl⟩ ?_
      rintro d e G ⟨a, tss, vs, D, fl, rfl, ha, hE, h0, h1, h9, hD1, hD2, ho, hA, htl, hres⟩
      have hzG : EszOk G 1 (.slice p rs.length c) := by
        intro b' o' n' c' e'
        cases e'
        rcases h.is with ⟨p2, c2, e2, hp⟩
        cases e2
        rcases hp with ⟨hh, _⟩ | ⟨b3, o3, e3, hb3, _⟩
        · cases hh
        · cases e3
          exact hz.ext hb3 hE _ _ _ _ rfl
      obtain ⟨u, hu, hur⟩ := (h.ext hE).tail hzG a ha
      have w1 : IntKind.i64.wrap (seq + (a : Int)) = seq + (a : Int) := wrap_i64 (by omega) (by omega)
      obtain ⟨r, G1, c1, E1, ho1⟩ := one_ok u (rs.drop a) (seq + (a : Int)) G hur (by omega) (by rw [List.length_drop]; omega)
      obtain ⟨g1, g2⟩ := agree (seq := seq) (a := a) (rs.drop a) ⟨tss, a, [], 0, fl⟩ [] 0 ⟨rfl, rfl, fun hh => absurd rfl hh, fun hh => absurd rfl hh⟩
      rw [Nat.add_zero, hres] at g1 g2
      cases hone : oneGo (seq + (a : Int)) [] 0 (rs.drop a) with
      | none =>
        rw [hone] at ho1
        simp only [oneOut] at ho1
        subst ho1
        obtain ⟨z1, z2⟩ := g2 hone
        obtain ⟨q, d, h8, _⟩ := ho.slc
        simp only at z1 z2
        have n4 : scNext rs seq = seq + a := by rw [scNext, if_pos hok, z2]
        have u4 : scUsed rs seq = a := by rw [scUsed, if_pos hok, z2]
        have e4 : scErr rs seq = 0 := by rw [scErr, if_pos hok]
        have t4 : scTxns rs seq = tss := by rw [scTxns, if_pos hok, z1]
        rw [h8] at ho
        simp [c_ref1_Scan_l10, h0, h1, h9, hu, w1, c1, h8, n4, u4, e4, t4]
        exact ⟨hE.trans E1, vs, D, hD1, ho.ext E1, hA.mono fun v xs hx => ⟨hx.1.ext E1, hx.2⟩⟩
      | some x =>
        obtain ⟨is, n⟩ := x
        rw [hone] at ho1
        simp only [oneOut] at ho1
        obtain ⟨v2, rfl, o2⟩ := ho1
        obtain ⟨j, fl2, e1, e2, e3⟩ := g1 is n hone
        rw [List.length_drop] at e2
        have hn1 := E1.next
        have hvl := hA.length
        obtain ⟨q, d, hq2, _⟩ := o2.slc
        subst hq2
        have nn : ¬ ((n : Int) = 0) := by omega
        have nn' : ¬ n = 0 := by omega
        have w2 : IntKind.i64.wrap ((a : Int) + (n : Int)) = ((a + n : Nat) : Int) := by rw [wrap_i64 (by omega) (by omega)]; omega
        simp at w2
        have hA2 : ∀ X, appV (G1.add X) 1 24 1 (e 8) [.slice q is.length d] = some (.slice (some ⟨G1.next + 1, 0, none⟩) (vs.length + 1) (2 * (vs.length + 1)), (killB (e 8) (G1.add X)).add (rowBlk 1 ((vs ++ [Value.slice q is.length d]).flatMap encV))) := fun X => by
          rw [((ho.ext E1).ext ((Ext.refl _).add X)).app encV_len _ (by omega) rfl (by omega) (by omega)]
          simp
        simp [c_ref1_Scan_l10, h0, h1, h9, hu, w1, c1, nn, nn', w2, hA2]
        have fr : ∀ X Y u us m, Own encI 2 H.next G1 u us → BelowB u G1.next → (∀ b, b < G1.next → ¬ NotIn u b → NotIn (e 8) b) → m = G1.next → Own encI 2 H.next ((killB (e 8) (G1.add X)).add Y) u us ∧ BelowB u m := fun X Y u us m h1 h2 h3 hm => by
          subst hm
          refine ⟨(Own.frame h1 (H' := killB (e 8) (G1.add X)) (by simp) fun b hb hb2 hb3 => ?_).ext ((Ext.refl _).add _), h2⟩
          rw [blk_killB (h3 b hb2 hb3), blk_add, if_neg (by omega)]
        have hz := Own.new' (enc := encV) (sz := 1) (n0 := G1.next) (b := G1.next + 1) (H := killB (e 8) (G1.add (rowBlk 1 [.slice q is.length d]))) (xs := vs ++ [.slice q is.length d]) (by simp) (by omega) (by simp; omega) rfl
        have hrest : scanGo seq ⟨tss ++ [is], a + n, [], 0, fl2⟩ (a + n) (rs.drop (a + n)) = scRes rs seq := by
          rw [e3, List.drop_drop, show a + (j + 1) = a + n by omega]
        refine ⟨rs.length - (a + n), by omega, a + n, rfl, by omega, ((ho.ext E1).ext_kill hD1 ((hE.trans E1).add _)).add _, by simp, tss ++ [is], vs ++ [.slice q is.length d], G1.next, by omega, by omega, by simpa using hz, ?_, by simp; omega, ?_⟩
        · refine All2.append ?_ ⟨?_, trivial⟩
          · exact hA.mono fun u us hx => fr _ _ u us _ (hx.1.ext E1) (hx.2.mono (by omega)) (fun b hb hb2 => Classical.byContradiction fun hb3 => hb2 (hx.2.notIn (Nat.le_of_not_lt fun hb4 => hb3 (ho.notIn hb4)))) rfl
          · exact fr _ _ _ is _ (o2.low (by omega)) o2.below (fun b hb hb2 => ho.below.notIn (Nat.le_of_not_lt fun hb4 => hb2 (o2.notIn hb4))) rfl
        · cases fl2
          · exact .inl hrest
          · exact .inr hrest
    · have hok : ¬ scOk rs seq := fun hk => k3 hk.2
      have k4 : (200 : Int) < (rs.length : Int) := by omega
      simp [k2, k4, scNext, scUsed, scErr, scTxns, hok, Ext.refl, nilT]
  · have hok : ¬ scOk rs seq := fun hk => k2 hk.1
    simp [k2, scNext, scUsed, scErr, scTxns, hok, Ext.refl, nilT]
end Go.AM
end TextR6L
section TextR6M
/- Contracts: what is spoilt. -/
namespace Go.AM
open Go.Proofs
set_option linter.unusedVariables false
set_option linter.unusedSimpArgs false
set_option maxRecDepth 100000
attribute [-simp] ByteArray.size_eq_zero_iff
/-- A slice whose elements have a number in a cell; nobody may be harmed by a write there. -/
def NumC (n0 esz off : Nat) (H : Heap) (v : Value) : Prop :=
  v = .slice none 0 0 ∨ ∃ b n c B, v = .slice (some ⟨b, 0, none⟩) n c ∧ n0 ≤ b ∧ b < H.next ∧ n ≤ 140737488355328 ∧ H.blk b = some B ∧ B.ro = false ∧ ∀ i, i < n → ∃ x : Int, B.at_ (i * esz + off) = some (.int .i64 x)
theorem NumC.put {n0 esz off : Nat} {H : Heap} {u : Value} (h : NumC n0 esz off H u) {b : Nat} {B : Blk} (hB : H.blk b = some B) (hro : B.ro = false) (k : Nat) (y : Int) : NumC n0 esz off (H.set b (some (B.put k (.int .i64 y)))) u := by
  rcases h with rfl | ⟨b2, n, c, B2, rfl, h1, h2, h3, h4, h5, h6⟩
  · exact .inl rfl
  · by_cases hb : b2 = b
    · subst hb
      rw [hB] at h4; cases h4
      refine .inr ⟨b2, n, c, _, rfl, h1, h2, h3, blk_set_self _ _ _, hro, fun i hi => ?_⟩
      rw [at_put]
      split
      · exact ⟨y, rfl⟩
      · exact h6 i hi
    · exact .inr ⟨b2, n, c, B2, rfl, h1, h2, h3, by rw [blk_set_ne hb]; exact h4, h5, h6⟩
theorem Own.numI {n0 : Nat} {H : Heap} {v : Value} {xs : List Img} (h : Own encI 2 n0 H v xs) : NumC n0 2 0 H v := by
  rcases h.is with ⟨rfl, _⟩ | ⟨b, B, rfl, h2, h3, h4, h5, _⟩
  · exact .inl rfl
  · by_cases hne : xs = []
    · subst hne; exact .inr ⟨b, 0, _, B, rfl, h2, h3, by omega, h4, h5, fun i hi => by omega⟩
    · obtain ⟨b', B', e, _, _, hB, _, hat, _⟩ := h.blkOf encI_len hne
      cases e
      rw [h4] at hB; cases hB
      exact .inr ⟨b, _, _, B, rfl, h2, h3, h.lim, h4, h5, fun i hi => ⟨xs[i].1, by rw [hat i hi 0 (by omega)]; rfl⟩⟩
theorem Own.numR {n0 : Nat} {H : Heap} {v : Value} {xs : List Rec} (h : Own encR 4 n0 H v xs) : NumC n0 4 1 H v := by
  rcases h.is with ⟨rfl, _⟩ | ⟨b, B, rfl, h2, h3, h4, h5, _⟩
  · exact .inl rfl
  · by_cases hne : xs = []
    · subst hne; exact .inr ⟨b, 0, _, B, rfl, h2, h3, by omega, h4, h5, fun i hi => by omega⟩
    · obtain ⟨b', B', e, _, _, hB, _, hat, _⟩ := h.blkOf encR_len hne
      cases e
      rw [h4] at hB; cases hB
      exact .inr ⟨b, _, _, B, rfl, h2, h3, h.lim, h4, h5, fun i hi => ⟨xs[i].2.1, by rw [hat i hi 1 (by omega)]; rfl⟩⟩
end Go.AM
end TextR6M
section TextR6N
/- Contracts: what is lent. -/
namespace Go.AM
open Go.Proofs
set_option linter.unusedVariables false
set_option linter.unusedSimpArgs false
set_option maxRecDepth 100000
attribute [-simp] ByteArray.size_eq_zero_iff
/-- A slice in a block of its own with room for two marks behind it. -/
structure Lent {α : Type} (enc : α → List Value) (sz n0 : Nat) (H : Heap) (v : Value) (xs : List α) (m m' : α) : Prop where
  lim : xs.length ≤ 140737488355000
  is : ∃ b B, v = .slice (some ⟨b, 0, none⟩) xs.length (2 * (xs.length + 2)) ∧ n0 ≤ b ∧ b < H.next ∧ H.blk b = some B ∧ B.ro = false ∧ B.esz = sz ∧ ∀ j, j < (xs.length + 2) * sz → B.at_ j = ((xs ++ [m, m']).flatMap enc)[j]?
theorem Lent.ext {α : Type} {enc : α → List Value} {sz n0 : Nat} {H H' : Heap} {v : Value} {xs : List α} {m m' : α} (h : Lent enc sz n0 H v xs m m') (he : Ext H H') : Lent enc sz n0 H' v xs m m' := by
  obtain ⟨hl, b, B, h1, h2, h3, h4, h5⟩ := h
  exact ⟨hl, b, B, h1, h2, by have := he.next; omega, by rw [he.blk b h3]; exact h4, h5⟩
/-- The slice with its marks. -/
theorem Lent.whole {α : Type} {enc : α → List Value} {sz n0 : Nat} {H : Heap} {v : Value} {xs : List α} {m m' : α} (h : Lent enc sz n0 H v xs m m') : ∃ b, v = .slice (some ⟨b, 0, none⟩) xs.length (2 * (xs.length + 2)) ∧ Own enc sz n0 H (.slice (some ⟨b, 0, none⟩) (xs.length + 2) (2 * (xs.length + 2))) (xs ++ [m, m']) := by
  obtain ⟨hl, b, B, rfl, h2, h3, h4, h5, h6, h7⟩ := h
  exact ⟨b, rfl, by simp; omega, .inr ⟨b, B, by simp, h2, h3, h4, h5, h6, by simpa using h7⟩⟩
theorem Lent.rows {α : Type} {enc : α → List Value} {sz n0 : Nat} {H : Heap} {v : Value} {xs : List α} {m m' : α} (h : Lent enc sz n0 H v xs m m') (he : ∀ x, (enc x).length = sz) : Rows enc sz H v xs := by
  obtain ⟨b, rfl, hw⟩ := h.whole
  obtain ⟨u, hu, hr⟩ := hw.cut he xs.length (by simp)
  have : u = .slice (some ⟨b, 0, none⟩) xs.length (2 * (xs.length + 2)) := by
    simp [slvV, bound] at hu
    exact hu.symm
  subst this
  simpa using hr

theorem copyI_ok (v : Value) (xs : List Img) (H : Heap) (h : Imgs H v xs) (hw : xs.length * 24 ≤ 140737488355328) (hn : xs.length ≤ 140737488355328) : wpf (call K f_law0_CopyImages [v] H) fun r H' => Ext H H' ∧ OwnZ encI 2 H.next H' r xs := by
  refine open_plain rfl fc_law0_CopyImages rfl (Nat.le_of_ble_eq_true rfl) ?_
  obtain ⟨p, c, rfl⟩ := h.slice
  have hE := (Ext.refl H).add (rowBlk 2 [])
  have hA : appE 2 24 (.slice (some ⟨H.next, 0, none⟩) 0 1) (.slice p xs.length c) (H.add (rowBlk 2 [])) = appV (H.add (rowBlk 2 [])) 2 24 xs.length (.slice (some ⟨H.next, 0, none⟩) 0 1) (xs.flatMap encI) := (h.ext hE).appE encI_len _ _
  by_cases hx : xs = []
  · have hz : appV (H.add (rowBlk 2 [])) 2 24 xs.length (.slice (some ⟨H.next, 0, none⟩) 0 1) (xs.flatMap encI) = some (.slice (some ⟨H.next, 0, none⟩) 0 1, H.add (rowBlk 2 [])) := by subst hx; rfl
    rw [hz] at hA
    simp [hA]
    exact ⟨hE, .inr ⟨hx, H.next, rfl, Nat.le_refl _, by simp⟩⟩
  · have hl : xs.length ≠ 0 := fun e => hx (List.eq_nil_of_length_eq_zero e)
    obtain ⟨X, x1, x2, x3⟩ := OwnZ.app (n0 := H.next) (xs := ([] : List Img)) (.inr ⟨rfl, H.next, rfl, Nat.le_refl _, by simp⟩ : OwnZ encI 2 H.next (H.add (rowBlk 2 [])) (.slice (some ⟨H.next, 0, none⟩) 0 1) []) encI_len (bytes := 24) (k := xs.length) (xs.flatMap encI) hl (one_flat (fun _ => rfl) xs) (by simp; omega) (by simp; omega)
    rw [x3] at hA
    simp at hA
    simp [hA]
    have hz := Own.new' (enc := encI) (sz := 2) (n0 := H.next) (b := H.next + 1) (H := X) (xs := xs) (by rw [x1]; simp) (by omega) (by omega) rfl
    exact ⟨(x2 H (Nat.le_refl _) hE).add _, .inl hz⟩

theorem Own.lent {α : Type} {enc : α → List Value} {sz n0 : Nat} {H : Heap} {b : Nat} {xs : List α} {m m' : α} (h : Own enc sz n0 H (.slice (some ⟨b, 0, none⟩) (xs.length + 2) (2 * (xs.length + 2))) (xs ++ [m, m'])) (hl : xs.length ≤ 140737488355000) : Lent enc sz n0 H (.slice (some ⟨b, 0, none⟩) xs.length (2 * (xs.length + 2))) xs m m' := by
  rcases h.is with ⟨e, _⟩ | ⟨b', B, e, h2, h3, h4, h5, h6, h7⟩
  · cases e
  · simp at e
    subst e
    exact ⟨hl, b, B, rfl, h2, h3, h4, h5, h6, by simpa using h7⟩
def markI : Img := (77777, ⟨#[]⟩)
theorem lendI_ok (v : Value) (xs : List Img) (H : Heap) (h : Imgs H v xs) (hw : (xs.length + 2) * 24 ≤ 140737488355328) : wpf (call K f_law0_LendImages [v] H) fun r H' => Ext H H' ∧ Lent encI 2 H.next H' r xs markI markI := by
  refine open_plain rfl fc_law0_LendImages rfl (Nat.le_of_ble_eq_true rfl) ?_
  obtain ⟨p, c, rfl⟩ := h.slice
  obtain ⟨r, G1, c1, E1, o1⟩ := copyI_ok _ xs H h (by omega) (by omega)
  obtain ⟨X, x1, x2, x3⟩ := (o1.ext ((Ext.refl G1).add (rowBlk 2 [.int .i64 77777, .string ⟨#[]⟩, .int .i64 77777, .string ⟨#[]⟩]))).app encI_len (bytes := 24) (k := 2) [.int .i64 77777, .string ⟨#[]⟩, .int .i64 77777, .string ⟨#[]⟩] (by omega) rfl (by omega) (by omega)
  simp at x3
  simp [c1, x3, slvV, bound]
  have hn := E1.next
  have hz := Own.new' (enc := encI) (sz := 2) (n0 := H.next) (b := G1.next + 1) (H := X) (xs := xs ++ [markI, markI]) (by rw [x1]; simp) (by omega) (by simp; omega) rfl
  refine ⟨(x2 H (Nat.le_refl _) (E1.add _)).add _, ?_⟩
  have := Own.lent (m := markI) (m' := markI) (b := G1.next + 1) (xs := xs) (H := X.add (rowBlk 2 ((xs ++ [markI, markI]).flatMap encI))) (n0 := H.next) (sz := 2) (enc := encI) (by simpa using hz) (by omega)
  simpa [markI] using this
def markR : ByteArray := ⟨#[126, 114, 111, 111, 109]⟩
def markB : ByteArray := ⟨#[126, 98, 101, 104, 105, 110, 100]⟩
theorem keptI_ok (v u : Value) (xs : List Img) (n0 : Nat) (H : Heap) (h : Lent encI 2 n0 H v xs markI markI) (hu : Imgs H u xs) : call K f_law0_KeptImages [v, u] H = some (.bool true, H) := by
  have hl := h.lim
  have hr := h.rows encI_len
  obtain ⟨b, rfl, hw⟩ := h.whole
  obtain ⟨p, c, rfl⟩ := hu.slice
  refine of_wpf (open_pure rfl fc_law0_KeptImages rfl (Nat.le_of_ble_eq_true rfl) ?_)
  have hS : call K f_law0_SameImages [.slice (some ⟨b, 0, none⟩) xs.length (2 * (xs.length + 2)), .slice p xs.length c] H.roAll = some (.bool true, H.roAll) := by
    rw [sameImages_ok _ _ xs xs _ hr.roAll hu.roAll, decide_eq_true rfl]
  obtain ⟨n, hn⟩ : ∃ n, n = xs.length := ⟨_, rfl⟩
  have w1 : IntKind.i64.wrap ((n : Int) + 2) = ((n + 2 : Nat) : Int) := by rw [wrap_i64 (by omega) (by omega)]; omega
  have w2 : IntKind.i64.wrap ((n : Int) + 1) = ((n + 1 : Nat) : Int) := by rw [wrap_i64 (by omega) (by omega)]; omega
  have hrw := hw.rows encI_len
  obtain ⟨b1, o1, e1, _, a0, a1⟩ := hrw.at2 (i := n) (by simp; omega)
  cases e1
  obtain ⟨b2, o2, e2, _, d0, d1⟩ := hrw.at2 (i := n + 1) (by simp; omega)
  cases e2
  have g0 : (xs ++ [markI, markI])[n]'(by simp; omega) = markI := by subst hn; simp
  have g1 : (xs ++ [markI, markI])[n + 1]'(by simp; omega) = markI := by subst hn; simp
  rw [g0] at a0 a1
  rw [g1] at d0 d1
  simp [markI] at a0 a1 d0 d1
  rw [← hn] at hS
  have hsl : slvV H.roAll 2 (.slice (some ⟨b, 0, none⟩) n (2 * (n + 2))) none (some (.int .i64 ((n + 2 : Nat) : Int))) none = some (.slice (some ⟨b, 0, none⟩) (n + 2) (2 * (n + 2))) := by
    simp only [slvV, bound, natOf_cast]
    simp
  obtain ⟨n2, hn2⟩ : ∃ n2 : Nat, n2 = n + 2 := ⟨_, rfl⟩
  obtain ⟨n1, hn1⟩ : ∃ n1 : Nat, n1 = n + 1 := ⟨_, rfl⟩
  rw [← hn2] at w1 hsl
  rw [← hn1] at w2 d0 d1
  have q1 : n < n2 := by omega
  have q2 : n1 < n2 := by omega
  simp only [← hn]
  rw [← hn2]
  rw [← hn2] at hS
  simp [hS, w1, w2, hsl, q1, q2, a0, a1, d0, d1]
end Go.AM
end TextR6N
