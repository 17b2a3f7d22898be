/- Contracts: the scanner's take. -/
import Derived.Test.YteamlnogjjgdoaaR3F
namespace Go.AM
open Go.Proofs
set_option linter.unusedVariables false
set_option linter.unusedSimpArgs false
set_option maxRecDepth 100000
attribute [-simp] ByteArray.size_eq_zero_iff
theorem SR.setOpn {n0 sb H S B D E vd vo vs} (h : SR n0 sb H S B D E vd vo vs) {b : Nat} (hb : E ≤ b) (f : Option Blk) {os : List Img} (ho : Own encI 2 E (H.set b f) vo os) : SR n0 sb (H.set b f) { S with opn := os } B D E vd vo vs := by
  have := h.lo; have := h.nD; have := h.DE
  exact { hb := by rw [blk_set_ne (by omega)]; exact h.hb, ro := h.ro, c0 := h.c0, c1 := h.c1, c2 := h.c2, c3 := h.c3, c4 := h.c4, lo := h.lo, nD := h.nD, DE := h.DE, EH := h.EH,
          od := h.od.setB (h.bd.notIn hb) f, bd := h.bd, oe := h.oe.mono fun v xs hx => ⟨hx.1.setB (hx.2.notIn (by omega)) f, hx.2⟩, oo := ho }
theorem SR.setCells {n0 sb H S B D E vd vo vs} (h : SR n0 sb H S B D E vd vo vs) {B' : Blk} {p : Nat} {fl : Bool} (hro : B'.ro = false) (h0 : B'.at_ 0 = B.at_ 0) (h1 : B'.at_ 1 = B.at_ 1) (h2 : B'.at_ 2 = B.at_ 2) (h3 : B'.at_ 3 = some (.int .i64 (p : Int))) (h4 : B'.at_ 4 = some (.bool fl)) :
    SR n0 sb (H.set sb (some B')) { S with part := p, full := fl } B' D E vd vo vs := by
  have := h.lo; have := h.nD; have := h.DE
  exact { hb := by simp, ro := hro, c0 := by rw [h0]; exact h.c0, c1 := by rw [h1]; exact h.c1, c2 := by rw [h2]; exact h.c2, c3 := h3, c4 := h4, lo := h.lo, nD := h.nD, DE := h.DE, EH := h.EH,
          od := h.od.set (by omega) _, bd := h.bd, oe := h.oe.mono fun v xs hx => ⟨hx.1.set h.lo _, hx.2⟩, oo := h.oo.set (by omega) _ }
theorem tail_ok {n0 sb G S B D E vd vo vs} (h : SR n0 sb G S B D E vd vo vs) (ini : List Img) (pg : Int) (tx d : ByteArray) (t : Int) (hop : S.opn = ini ++ [(pg, tx)]) (e : Env) (rb : Nat) (R : Blk) (hR : G.blk rb = some R) (r2 : R.at_ 2 = some (.int .i64 t)) (r3 : R.at_ 3 = some (.string d))
    (hrs : rb ≠ sb) (hrv : NotIn vo rb) (he0 : e 0 = .pointer (some ⟨sb, 0, none⟩)) (he4 : e 4 = .pointer (some ⟨rb, 0, none⟩)) (ht : 0 ≤ t ∧ t < 4) (hlen : ini.length ≤ 1000) (hsz : tx.size ≤ 100000) (hds : d.size ≤ 24) :
    wp (run K (.seq (.regd c_log_scanner_take_r12 []) (.seq (.regd c_log_scanner_take_r13 [(7, 12)]) (.seq (.reg c_log_scanner_take_r14) .ret))) e G) fun x e' G' => isEnd x = true ∧ e' 6 = .bool true ∧ Beside n0 sb G G' ∧ SRel n0 sb G' { S with opn := ini ++ [(pg, tx ++ d)], part := ((t + 1) % 4).toNat, full := decide (d.size = 24) } := by
  have g1 := h.lo; have g2 := h.nD; have g3 := h.DE; have g4 := h.EH
  obtain ⟨b, B2, rfl, hbE, hbn, hB2, hro2, hat, hup⟩ := h.oo.blkOf encI_len (by rw [hop]; simp)
  have hl : S.opn.length = ini.length + 1 := by rw [hop]; simp
  have hx : S.opn[ini.length]'(by omega) = (pg, tx) := by simp [hop]
  have a0 := hat ini.length (by omega) 0 (by omega)
  have a1 := hat ini.length (by omega) 1 (by omega)
  rw [hx] at a0 a1
  have hset : S.opn.set ini.length (pg, tx ++ d) = ini ++ [(pg, tx ++ d)] := by rw [hop]; simp
  have hO := hup ini.length 1 (by omega) (by omega) (pg, tx ++ d) (.string (tx ++ d)) (fun r hr => by
    rw [hx]; match r, hr with
    | 0, _ => rfl
    | 1, _ => rfl)
  rw [hset] at hO
  have hS1 := h.setOpn hbE _ hO
  have nb : b ≠ sb := by omega
  have nb' : sb ≠ b := by omega
  have nr : rb ≠ b := fun e => hrv _ _ _ rfl (by simpa using e)
  have w1 : IntKind.i64.wrap (((ini.length : Int) + 1) - 1) = (ini.length : Int) := by rw [wrap_i64 (by omega) (by omega)]; omega
  simp at a0 a1 w1
  have w2 : binV K.P .add 9 (.string tx) (.string d) = some (.string (tx ++ d)) := binV_sadd _ _ _ _ (by omega)
  have w3 : IntKind.i64.wrap (t + 1) = t + 1 := wrap_i64 (by omega) (by omega)
  obtain ⟨m, hm⟩ : ∃ m : Nat, m = ((t + 1) % 4).toNat := ⟨_, rfl⟩
  have w4 : binV K.P .rem 3 (.int .i64 (t + 1)) (.int .i64 4) = some (.int .i64 (m : Int)) := by
    rw [binV_rem _ _ _ _ _ (by omega), Int.tmod_eq_emod_of_nonneg (by omega)]; congr 2; omega
  have w5 : decide ((d.size : Int) = 24) = decide (d.size = 24) := by congr 1; apply propext; omega
  have hcs : ∀ o, G.cell sb o = B.at_ o := fun o => h.cell o
  have hcb : ∀ o, G.cell b o = B2.at_ o := fun o => by simp only [Heap.cell, hB2]
  have hcr : ∀ o, G.cell rb o = R.at_ o := fun o => by simp only [Heap.cell, hR]
  rw [← hm]
  simp [he0, he4, hl, hcs, hcb, hcr, h.hb, h.ro, h.c0, h.c1, h.c2, h.c3, h.c4, hB2, hro2, a0, a1, r2, r3, hrs, nb, nb', nr, w1, w2, w3, w4, w5, run_regd_tr, finD_some, Chk, wanted]
  have hS2 := hS1.setCells (B' := (B.put 3 (.int .i64 (m : Int))).put 4 (.bool (decide (d.size = 24)))) (p := m) (fl := decide (d.size = 24)) (by simpa using h.ro) (by simp) (by simp) (by simp) (by simp) (by simp)
  refine ⟨⟨?_, ?_⟩, ?_⟩
  · simp
  · intro k hk hks
    simp [hks]; omega
  · exact ⟨_, _, _, _, _, _, hS2⟩
def takeTail : IC := .seq (.regd c_log_scanner_take_r12 []) (.seq (.regd c_log_scanner_take_r13 [(7, 12)]) (.seq (.reg c_log_scanner_take_r14) .ret))
def takeCode : IFn := ⟨(.seq (.reg c_log_scanner_take_r0) (.seq (.seq (.reg c_log_scanner_take_r1) (.cond (.t 10) (.seq (.reg c_log_scanner_take_r2) .ret) .skip)) (.seq (.seq (.regd c_log_scanner_take_r3 []) (.cond (.t 20) (.seq (.reg c_log_scanner_take_r4) .ret) .skip)) (.seq (.seq (.reg c_log_scanner_take_r5) (.seq (.reg c_log_scanner_take_r6) (.cond (.t 28) (.seq (.seq (.regd c_log_scanner_take_r7 []) (.cond (.t 44) (.seq (.reg c_log_scanner_take_r8) .ret) .skip)) (.regd c_log_scanner_take_r9 [])) (.seq (.regd c_log_scanner_take_r10 []) (.cond (.t 80) (.seq (.reg c_log_scanner_take_r11) .ret) .skip))))) takeTail)))), 113, [.tmp 6]⟩
theorem fc_take : fnAt Try.prog f_log_scanner_take = some takeCode := fc_log_scanner_take
attribute [simp] takeCode
def putS (S : Sc) (ini : List Img) (x : Img) (r : Rec) : Sc := { S with opn := ini ++ [(r.2.1, x.2 ++ r.2.2.2)], part := ((r.2.2.1 + 1) % 4).toNat, full := decide (r.2.2.2.size = 24) }
def takeS (S : Sc) (r : Rec) (i : Nat) : Option Sc :=
  if r.2.2.1 = 4 then (if S.part = 0 then some (commitS S i) else none)
  else if r.2.2.1 ≠ (S.part : Int) then none
  else match S.opn.getLast? with
    | none => if r.2.2.1 = 0 then some (putS S S.opn (r.2.1, ⟨#[]⟩) r) else none
    | some x => if r.2.2.1 = 0 then (if r.2.1 ≤ x.1 then none else some (putS S S.opn (r.2.1, ⟨#[]⟩) r))
      else if x.1 ≠ r.2.1 ∨ (S.full = false ∧ r.2.2.2.size ≠ 0) then none else some (putS S S.opn.dropLast x r)
/-- What holds of a scanner all along. -/
structure ScOk (S : Sc) : Prop where
  part : S.part < 4
  some_ : S.part ≠ 0 → S.opn ≠ []
  opn : S.opn.length ≤ 1000
  done : S.done.length ≤ 1000
  size : ∀ x ∈ S.opn, x.2.size ≤ 100000
theorem take_ok {n0 sb H S} (h : SRel n0 sb H S) (hk : ScOk S) (q pg t : Int) (d : ByteArray) (ht : 0 ≤ t ∧ t ≤ 4) (hd : d.size ≤ 24) (i : Nat) (hi : i ≤ 1000) :
    wpf (call K f_log_scanner_take [.pointer (some ⟨sb, 0, none⟩), .agg #[.int .i64 q, .int .i64 pg, .int .i64 t, .string d], .int .i64 (i : Int)] H) fun v H' =>
      v = .bool (takeS S (q, pg, t, d) i).isSome ∧ Beside n0 sb H H' ∧ SRel n0 sb H' ((takeS S (q, pg, t, d) i).getD S) := by
  obtain ⟨B, D, E, vd, vo, vs, h⟩ := h
  have g1 := h.lo; have g2 := h.nD; have g3 := h.DE; have g4 := h.EH
  have hBs : Beside n0 sb H (H.add (rowBlk 4 [.int .i64 q, .int .i64 pg, .int .i64 t, .string d])) := ⟨by simp, fun b hb _ => by rw [blk_add, if_neg (by omega)]⟩
  have h' := h.add (rowBlk 4 [.int .i64 q, .int .i64 pg, .int .i64 t, .string d])
  refine open_plain rfl fc_take rfl (Nat.le_of_ble_eq_true rfl) ?_
  have n1 : sb ≠ H.next := by omega
  have n2 : sb ≠ H.next + 1 := by omega
  have n3 : sb ≠ H.next + 1 + 1 := by omega
  have hop := hk.part
  obtain ⟨p, c, hvo0, hp⟩ := h.oo.slc
  obtain ⟨n, hn⟩ : ∃ n, S.opn.length = n := ⟨_, rfl⟩
  rw [hn] at hvo0
  subst hvo0
  have hlo := hk.opn
  by_cases t4 : t = 4
  · subst t4
    obtain ⟨u, G, hc, hv, hb, hs⟩ := commit_ok h' i hi hk.done
    subst hv
    simp [hc]
    by_cases h0 : S.part = 0
    · rw [if_pos h0] at hs
      simp [takeS, h0]
      exact ⟨hBs.trans hb, hs⟩
    · rw [if_neg h0] at hs
      simp [takeS, h0]
      exact ⟨hBs.trans hb, hs⟩
  · by_cases tp : t = (S.part : Int)
    · by_cases t0 : t = 0
      · subst t0
        have hp0 : S.part = 0 := by omega
        -- the way on: a new image, then its text
        have hA : ∀ X, appV ((H.add (rowBlk 4 [.int .i64 q, .int .i64 pg, .int .i64 0, .string d])).add X) 2 24 1 (.slice p n c) [.int .i64 pg, .string ⟨#[]⟩] = some (.slice (some ⟨H.next + 1 + 1, 0, none⟩) (n + 1) (2 * (n + 1)), (killB (.slice p n c) ((H.add (rowBlk 4 [.int .i64 q, .int .i64 pg, .int .i64 0, .string d])).add X)).add (rowBlk 2 ((S.opn ++ [((pg, ⟨#[]⟩) : Img)]).flatMap encI))) := fun X => by
          rw [(h'.oo.ext ((Ext.refl _).add X)).app encI_len _ (by omega) rfl (by omega) (by omega)]
          simp [hn]
        have hk0 : ∀ X b, b < E → (killB (.slice p n c) ((H.add (rowBlk 4 [.int .i64 q, .int .i64 pg, .int .i64 0, .string d])).add X)).blk b = ((H.add (rowBlk 4 [.int .i64 q, .int .i64 pg, .int .i64 0, .string d])).add X).blk b := fun X b hb => blk_killB (h.oo.notIn hb)
        have hk1 : ∀ X, (killB (.slice p n c) ((H.add (rowBlk 4 [.int .i64 q, .int .i64 pg, .int .i64 0, .string d])).add X)).blk sb = some B := fun X => by rw [hk0 X sb (by omega), blk_add, if_neg (by simp; omega), blk_add, if_neg (by omega)]; exact h.hb
        have hk2 : ∀ X o, (killB (.slice p n c) ((H.add (rowBlk 4 [.int .i64 q, .int .i64 pg, .int .i64 0, .string d])).add X)).cell sb o = B.at_ o := fun X o => by simp only [Heap.cell, hk1]
        have on : ∀ (e : Env) (X : Blk), e 0 = .pointer (some ⟨sb, 0, none⟩) → e 4 = .pointer (some ⟨H.next, 0, none⟩) →
            wp (run K takeTail e (((killB (.slice p n c) ((H.add (rowBlk 4 [.int .i64 q, .int .i64 pg, .int .i64 0, .string d])).add X)).add (rowBlk 2 (S.opn.flatMap encI ++ [.int .i64 pg, .string ⟨#[]⟩]))).set sb (some (B.put 2 (.slice (some ⟨H.next + 1 + 1, 0, none⟩) (n + 1) (2 * (n + 1))))))) fun x e' H' =>
              isEnd x = true ∧ e' 6 = .bool true ∧ Beside n0 sb H H' ∧ SRel n0 sb H' (putS S S.opn (pg, ⟨#[]⟩) (q, pg, 0, d)) := fun e X he0 he4 => by
          have hvo : ∀ b, b < E → NotIn (.slice p n c) b := fun b hb => h.oo.notIn hb
          have hX : ∀ {α : Type} {enc : α → List Value} {sz m : Nat} {v : Value} {xs : List α} {F : Nat}, sb < m → F ≤ E → Own enc sz m H v xs → BelowB v F → Own enc sz m (((killB (.slice p n c) ((H.add (rowBlk 4 [.int .i64 q, .int .i64 pg, .int .i64 0, .string d])).add X)).add (rowBlk 2 (S.opn.flatMap encI ++ [.int .i64 pg, .string ⟨#[]⟩]))).set sb (some (B.put 2 (.slice (some ⟨H.next + 1 + 1, 0, none⟩) (n + 1) (2 * (n + 1)))))) v xs := fun hm hF ho hv => by
            refine (((ho.ext (((Ext.refl H).add _).add X)).killB hv fun b hb => hvo b (by omega)).ext ((Ext.refl _).add _)).set hm _
          have hSR : SR n0 sb (((killB (.slice p n c) ((H.add (rowBlk 4 [.int .i64 q, .int .i64 pg, .int .i64 0, .string d])).add X)).add (rowBlk 2 (S.opn.flatMap encI ++ [.int .i64 pg, .string ⟨#[]⟩]))).set sb (some (B.put 2 (.slice (some ⟨H.next + 1 + 1, 0, none⟩) (n + 1) (2 * (n + 1)))))) { S with opn := S.opn ++ [(pg, ⟨#[]⟩)] } (B.put 2 (.slice (some ⟨H.next + 1 + 1, 0, none⟩) (n + 1) (2 * (n + 1)))) D E vd (.slice (some ⟨H.next + 1 + 1, 0, none⟩) (n + 1) (2 * (n + 1))) vs :=
            { hb := by simp, ro := by simpa using h.ro, c0 := by simpa using h.c0, c1 := by simpa using h.c1, c2 := by simp, c3 := by simpa using h.c3, c4 := by simpa using h.c4, lo := g1, nD := g2, DE := g3, EH := by simp; omega,
              od := hX (by omega) (Nat.le_refl _) h.od h.bd, bd := h.bd, oe := h.oe.mono fun v xs hx => ⟨hX g1 g3 hx.1 hx.2, hx.2⟩,
              oo := by
                have hz := Own.new' (enc := encI) (sz := 2) (n0 := E) (b := H.next + 1 + 1) (H := killB (.slice p n c) ((H.add (rowBlk 4 [.int .i64 q, .int .i64 pg, .int .i64 0, .string d])).add X)) (xs := S.opn ++ [(pg, ⟨#[]⟩)]) (by simp) (by omega) (by simp; omega) rfl
                have hz2 := hz.set (k := sb) (by omega) (some (B.put 2 (.slice (some ⟨H.next + 1 + 1, 0, none⟩) (n + 1) (2 * (n + 1)))))
                simpa [hn] using hz2 }
          have hrb : (((killB (.slice p n c) ((H.add (rowBlk 4 [.int .i64 q, .int .i64 pg, .int .i64 0, .string d])).add X)).add (rowBlk 2 (S.opn.flatMap encI ++ [.int .i64 pg, .string ⟨#[]⟩]))).set sb (some (B.put 2 (.slice (some ⟨H.next + 1 + 1, 0, none⟩) (n + 1) (2 * (n + 1)))))).blk H.next = some (rowBlk 4 [.int .i64 q, .int .i64 pg, .int .i64 0, .string d]) := by
            rw [blk_set_ne (by omega), blk_add, if_neg (by simp; omega), blk_killB (h.oo.below.notIn (Nat.le_refl _)), blk_add, if_neg (by simp), blk_add, if_pos rfl]
          have hT := tail_ok hSR S.opn pg ⟨#[]⟩ d 0 rfl e H.next _ hrb rfl rfl (by omega) (fun a n c e => by cases e; simp; omega) he0 he4 (by omega) hk.opn (by show 0 ≤ 100000; omega) hd
          refine hT.mono fun x e' H' hq => ⟨hq.1, hq.2.1, ⟨?_, fun b hb hbs => ?_⟩, hq.2.2.2⟩
          · have := hq.2.2.1.next; simp at this; omega
          · rw [hq.2.2.1.blk b hb hbs, blk_set_ne hbs, blk_add, if_neg (by simp; omega), hk0 X b (by omega), blk_add, if_neg (by simp; omega), blk_add, if_neg (by omega)]
        rcases List.eq_nil_or_concat S.opn with hnil | ⟨ini, x, hcc⟩
        · have hn0 : ¬ 0 < n := by rw [← hn, hnil]; simp
          have hgl : S.opn.getLast? = none := by rw [hnil]; rfl
          simp [h.cell, h.hb, h.ro, h.c3, h.c2, n1, n2, n3, ← tp, hn0, hA, hk1, hk2]
          refine (on _ _ (by simp) (by simp)).mono fun x e' H' hq => ?_
          simp [takeS, ← tp, hgl]
          exact hq
        · rw [List.concat_eq_append] at hcc
          obtain ⟨x1, x2⟩ := x
          obtain ⟨b, B2, hv2, hbE, hbn, hB2, hro2, hat, hup⟩ := h.oo.blkOf encI_len (by rw [hcc]; simp)
          have hni : n = ini.length + 1 := by rw [← hn, hcc]; simp
          have hx : S.opn[ini.length]'(by omega) = (x1, x2) := by simp [hcc]
          have a0 := hat ini.length (by omega) 0 (by omega)
          rw [hx] at a0
          simp at a0
          rw [hn] at hv2
          cases hv2
          have hgl : S.opn.getLast? = some (x1, x2) := by rw [hcc]; simp
          have hn0 : 0 < n := by omega
          have hmn : ini.length < n := by omega
          have w1 : IntKind.i64.wrap ((n : Int) - 1) = (ini.length : Int) := by rw [wrap_i64 (by omega) (by omega)]; omega
          have nb : b ≠ H.next := by omega
          have hcb : ∀ o, H.cell b o = B2.at_ o := fun o => by simp only [Heap.cell, hB2]
          by_cases hle : pg ≤ x1
          · simp [h.cell, h.hb, h.ro, h.c3, h.c2, n1, n2, n3, ← tp, hn0, hmn, w1, nb, hcb, a0, hle, takeS, hgl]
            exact ⟨hBs, _, _, _, _, _, _, h'⟩
          · simp [h.cell, h.hb, h.ro, h.c3, h.c2, n1, n2, n3, ← tp, hn0, hmn, w1, nb, hcb, a0, hle, hA, hk1, hk2]
            refine (on _ _ (by simp) (by simp)).mono fun x e' H' hq => ?_
            simp [takeS, ← tp, hgl, hle]
            exact hq
      · have hp0 : S.part ≠ 0 := by omega
        subst tp
        have hp4 : S.part ≠ 4 := by omega
        have hne := hk.some_ hp0
        rcases List.eq_nil_or_concat S.opn with hnil | ⟨ini, x, hcc⟩
        · exact absurd hnil hne
        · rw [List.concat_eq_append] at hcc
          obtain ⟨x1, x2⟩ := x
          obtain ⟨b, B2, hv2, hbE, hbn, hB2, hro2, hat, hup⟩ := h.oo.blkOf encI_len (by rw [hcc]; simp)
          have hni : n = ini.length + 1 := by rw [← hn, hcc]; simp
          have hx : S.opn[ini.length]'(by omega) = (x1, x2) := by simp [hcc]
          have a0 := hat ini.length (by omega) 0 (by omega)
          rw [hx] at a0
          simp at a0
          rw [hn] at hv2
          cases hv2
          have hgl : S.opn.getLast? = some (x1, x2) := by rw [hcc]; simp
          have hdl : S.opn.dropLast = ini := by rw [hcc]; simp
          have hmn : ini.length < n := by omega
          have w1 : IntKind.i64.wrap ((n : Int) - 1) = (ini.length : Int) := by rw [wrap_i64 (by omega) (by omega)]; omega
          have nb : b ≠ H.next := by omega
          have hcb : ∀ o, H.cell b o = B2.at_ o := fun o => by simp only [Heap.cell, hB2]
          by_cases e1 : x1 = pg
          · subst e1
            have hT := fun e he0 he4 => tail_ok h' ini x1 x2 d (S.part : Int) hcc e H.next _ (by rw [blk_add, if_pos rfl]) rfl rfl (by omega) (h.oo.below.notIn (Nat.le_refl _)) he0 he4 (by omega) (by omega) (hk.size (x1, x2) (by rw [hcc]; simp)) hd
            have fin : ∀ e, e 0 = .pointer (some ⟨sb, 0, none⟩) → e 4 = .pointer (some ⟨H.next, 0, none⟩) → wp (run K takeTail e (H.add (rowBlk 4 [.int .i64 q, .int .i64 x1, .int .i64 (S.part : Int), .string d]))) fun x e' H' =>
                isEnd x = true ∧ e' 6 = .bool true ∧ Beside n0 sb H H' ∧ SRel n0 sb H' (putS S S.opn.dropLast (x1, x2) (q, x1, (S.part : Int), d)) := fun e he0 he4 => (hT e he0 he4).mono fun x e' H' hq => ⟨hq.1, hq.2.1, hBs.trans hq.2.2.1, by rw [hdl]; exact hq.2.2.2⟩
            by_cases e2 : S.full = true
            · simp [h.cell, h.hb, h.ro, h.c3, h.c2, h.c4, n1, n2, n3, t4, t0, hp0, hp4, hmn, w1, nb, hcb, a0, e2]
              refine (fin _ (by simp) (by simp)).mono fun x e' H' hq => ?_
              simp [takeS, hgl, t4, t0, hp0, hp4, e2]
              exact hq
            · by_cases e3 : d.size = 0
              · simp [h.cell, h.hb, h.ro, h.c3, h.c2, h.c4, n1, n2, n3, t4, t0, hp0, hp4, hmn, w1, nb, hcb, a0, e2, e3]
                refine (fin _ (by simp) (by simp)).mono fun x e' H' hq => ?_
                simp [takeS, hgl, t4, t0, hp0, hp4, e2, e3]
                exact hq
              · simp [h.cell, h.hb, h.ro, h.c3, h.c2, h.c4, n1, n2, n3, t4, t0, hp0, hp4, hmn, w1, nb, hcb, a0, e2, e3, takeS, hgl]
                exact ⟨hBs, _, _, _, _, _, _, h'⟩
          · simp [h.cell, h.hb, h.ro, h.c3, h.c2, h.c4, n1, n2, n3, t4, t0, hp0, hp4, hmn, w1, nb, hcb, a0, e1, takeS, hgl]
            exact ⟨hBs, _, _, _, _, _, _, h'⟩
    · simp [h.cell, h.c3, n1, t4, tp, takeS]
      exact ⟨hBs, _, _, _, _, _, _, h'⟩
end Go.AM
