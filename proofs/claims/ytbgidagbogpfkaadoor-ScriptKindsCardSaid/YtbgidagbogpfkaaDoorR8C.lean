import Derived.Test.YtbgidagbogpfkaaDoorR8A
/- Contracts of the reference: what may be of an act. -/
namespace Go.AM
open Go.Proofs
set_option linter.unusedVariables false
set_option linter.unusedSimpArgs false
set_option maxRecDepth 100000
attribute [-simp] ByteArray.size_eq_zero_iff Heap.store Heap.row
/-! ### drawn regions that keep the memory -/
def KeepI (K : Cfg) (i : Ins) : Prop := ∀ e H v H', step K.P (call K) i e H = some (v, H') → H' = H
theorem keep_pure {K : Cfg} {i : Ins} (h1 : isAl i = false) (h2 : isEff i = false) : KeepI K i := fun e H v H' h => step_same h1 h2 h
theorem keep_call {K : Cfg} {f : FuncId} {xs : List Arg} (hp : K.pur f = true) (hx : K.X f = none) : KeepI K (.call f xs) := fun e H v H' h => by
  simp only [step] at h
  rw [call_eq, hx] at h
  simp only at h
  split at h
  · cases h
  · split at h
    · exact (quiet_inv h).1
    · cases h
theorem runTr_keep {K : Cfg} : ∀ (is : List Ir) (e : Env) (H : Heap) (tr : List (Env × Heap)), (∀ i ∈ is, KeepI K i.ins) → runTr K.P (call K) is e H = some tr → tr.length = is.length + 1 ∧ ∀ p ∈ tr, p.2 = H
  | [], e, H, tr, _, h => by simp only [runTr] at h; cases h; simp
  | i :: is, e, H, tr, hk, h => by
    simp only [runTr] at h
    split at h
    · rename_i e' H' hs
      split at h
      · rename_i l hl
        cases h
        have hH : H' = H := by
          unfold stepIr at hs
          split at hs
          · split at hs
            · rename_i v H2 hst; cases hs; exact hk i (by simp) _ _ _ _ hst
            · cases hs
          · cases hs; rfl
        subst hH
        obtain ⟨h1, h2⟩ := runTr_keep is e' H' l (fun j hj => hk j (by simp [hj])) hl
        refine ⟨by simp [h1], fun p hp => ?_⟩
        simp at hp
        rcases hp with rfl | hp
        · rfl
        · exact h2 p hp
      · cases h
    · cases h
theorem run_regd_keep (K : Cfg) (is : List Ir) (ch : List (Nat × Nat)) (e : Env) (H : Heap) (hk : ∀ i ∈ is, KeepI K i.ins) (hc : ch.all (fun p => decide (p.1 < is.length) && decide (p.2 < is.length)) = true) : run K (.regd is ch) e H = ok2 (runIr K.P (call K) is e H) := by
  rw [run_regd]
  unfold runD
  rw [← runTr_last]
  cases ht : runTr K.P (call K) is e H with
  | none => rfl
  | some tr =>
    obtain ⟨h1, h2⟩ := runTr_keep is e H tr hk ht
    simp only [Option.bind_some]
    rw [if_pos]
    intro p hp
    have := List.all_eq_true.1 hc p hp
    simp only [Bool.and_eq_true, decide_eq_true_eq] at this
    have e1 : is[p.1]? = some is[p.1] := List.getElem?_eq_getElem this.1
    have e2 : tr[p.1]? = some tr[p.1] := List.getElem?_eq_getElem (by omega)
    have e3 : tr[p.2 + 1]? = some tr[p.2 + 1] := List.getElem?_eq_getElem (by omega)
    have f2 := h2 tr[p.1] (List.getElem_mem _)
    have f3 := h2 tr[p.2 + 1] (List.getElem_mem _)
    refine Chk_intro (e := tr[p.1].1) (e' := tr[p.2 + 1].1) (H := H) (G := H) e1 (by rw [e2, ← f2]) (by rw [e3, ← f3]) fun _ => rfl
@[simp] theorem short_ok (s : ByteArray) (H : Heap) : call K f_ref20_short [.string s] H = some (.bool (decide (s.size ≤ 8)), H) := by
  refine of_wpf (open_pure rfl fc_ref20_short rfl (Nat.le_of_ble_eq_true rfl) ?_)
  have h7 : ((s.size : Nat) : Int) ≤ 8 ↔ s.size ≤ 8 := by omega
  simp [h7]
/-! ### a variable that holds an act -/
def zA : Ac := ⟨0, ⟨#[]⟩, ⟨#[]⟩, ⟨#[]⟩, ⟨#[]⟩, ⟨#[]⟩, 0, ⟨#[]⟩, 0, 0⟩
@[simp] theorem zA_enc : encA zA = [.int .i64 0, .string ⟨#[]⟩, .string ⟨#[]⟩, .string ⟨#[]⟩, .string ⟨#[]⟩, .string ⟨#[]⟩, .int .i64 0, .string ⟨#[]⟩, .int .i64 0, .int .i64 0] := rfl
def VarA (G : Heap) (b : Nat) (a : Ac) : Prop := ∃ B, G.blk b = some B ∧ B.ro = false ∧ ∀ j, j < 10 → B.at_ j = (encA a)[j]?
theorem VarA.isA {G : Heap} {b : Nat} {a : Ac} (h : VarA G b a) : IsA10 G b a := by
  obtain ⟨B, h1, _, h3⟩ := h
  constructor <;> simp only [Heap.cell, h1]
  · exact h3 0 (by omega)
  · exact h3 1 (by omega)
  · exact h3 2 (by omega)
  · exact h3 3 (by omega)
  · exact h3 4 (by omega)
  · exact h3 5 (by omega)
  · exact h3 6 (by omega)
  · exact h3 7 (by omega)
  · exact h3 8 (by omega)
  · exact h3 9 (by omega)
theorem IsA10.at {G : Heap} {b : Nat} {a : Ac} (h : IsA10 G b a) {j : Nat} (hj : j < 10) : G.cell b j = (encA a)[j]? := by
  match j, hj with
  | 0, _ => exact h.c0
  | 1, _ => exact h.c1
  | 2, _ => exact h.c2
  | 3, _ => exact h.c3
  | 4, _ => exact h.c4
  | 5, _ => exact h.c5
  | 6, _ => exact h.c6
  | 7, _ => exact h.c7
  | 8, _ => exact h.c8
  | 9, _ => exact h.c9
theorem IsA10.row {G : Heap} {b : Nat} {a : Ac} (h : IsA10 G b a) : G.row b 0 10 = some (encA a) := row_of _ 0 rfl fun j hj => by rw [Nat.zero_add]; exact h.at hj
theorem IsA10.other {G X : Heap} {b : Nat} {a : Ac} (h : IsA10 G b a) (hb : X.blk b = G.blk b) : IsA10 X b a := by
  have : ∀ o, X.cell b o = G.cell b o := fun o => by simp only [Heap.cell, hb]
  exact ⟨(this _).trans h.c0, (this _).trans h.c1, (this _).trans h.c2, (this _).trans h.c3, (this _).trans h.c4, (this _).trans h.c5, (this _).trans h.c6, (this _).trans h.c7, (this _).trans h.c8, (this _).trans h.c9⟩
theorem VarA.other {G X : Heap} {b : Nat} {a : Ac} (h : VarA G b a) (hb : X.blk b = G.blk b) : VarA X b a := by
  obtain ⟨B, h1, h2, h3⟩ := h
  exact ⟨B, by rw [hb]; exact h1, h2, h3⟩
theorem store_row {H : Heap} {b o : Nat} {B : Blk} {vs : List Value} (hB : H.blk b = some B) (hro : B.ro = false) (hr : (H.row b o vs.length).isSome = true) (h1 : vs.all Value.oneCell' = true) (hne : vs ≠ []) : H.store b o vs = some (H.set b (some (B.puts o vs))) := by
  cases vs with
  | nil => exact absurd rfl hne
  | cons v vs => simp only [Heap.store, hB]; rw [if_pos ⟨hro, hr, h1⟩]
set_option maxHeartbeats 400000 in
theorem VarA.store {G : Heap} {b : Nat} {p : Ac} (h : VarA G b p) (q : Ac) : ∃ X, G.store b 0 (encA q) = some X ∧ VarA X b q ∧ X.next = G.next ∧ ∀ k, k ≠ b → X.blk k = G.blk k := by
  have hr := h.isA.row
  obtain ⟨B, h1, h2, h3⟩ := h
  refine ⟨G.set b (some (B.puts 0 (encA q))), ?_, ⟨_, blk_set_self _ _ _, h2, fun j hj => ?_⟩, rfl, fun k hk => blk_set_ne hk⟩
  · have hlen : (encA q).length = 10 := rfl
    have : (G.row b 0 (encA q).length).isSome = true := by rw [hlen, hr]; rfl
    exact store_row h1 h2 this (encA_one q) (fun e => by have := congrArg List.length e; rw [hlen] at this; cases this)
  · rw [puts_at, if_pos ⟨Nat.zero_le _, by rw [encA_len]; omega⟩, Nat.sub_zero]
theorem VarA.put {G : Heap} {b : Nat} {p q : Ac} (h : VarA G b p) {j : Nat} (hj : j < 10) {v : Value} (hv : v.oneCell' = true) (hq : encA q = (encA p).set j v) : ∃ X, G.store b j [v] = some X ∧ VarA X b q ∧ X.next = G.next ∧ ∀ k, k ≠ b → X.blk k = G.blk k := by
  obtain ⟨B, h1, h2, h3⟩ := h
  refine ⟨G.set b (some (B.put j v)), ?_, ⟨_, blk_set_self _ _ _, h2, fun i hi => ?_⟩, rfl, fun k hk => blk_set_ne hk⟩
  · have hc : G.cell b j = some ((encA p)[j]'hj) := by simp only [Heap.cell, h1, h3 j hj]; exact List.getElem?_eq_getElem _
    simp [Heap.store, h1, h2, Heap.row, hc, hv, Blk.puts]
  · rw [hq, List.getElem?_set]
    show (if i = j then some v else B.at_ i) = _
    by_cases e : i = j
    · subst e; rw [if_pos rfl, if_pos rfl, if_pos (show i < (encA p).length from hj)]
    · rw [if_neg e, if_neg (Ne.symm e)]; exact h3 i hi
theorem VarA.new (G : Heap) (a : Ac) : VarA (G.add (rowBlk 10 (encA a))) G.next a := ⟨rowBlk 10 (encA a), blk_add_new _ _, rfl, fun j hj => rfl⟩
/-- A variable made and filled. -/
theorem new_act (G : Heap) (q : Ac) : ∃ X, (G.add (rowBlk 10 (encA zA))).store G.next 0 (encA q) = some X ∧ Ext G X ∧ VarA X G.next q ∧ X.next = G.next + 1 := by
  obtain ⟨X, h1, h2, h3, h4⟩ := (VarA.new G zA).store q
  exact ⟨X, h1, ⟨by rw [h3]; simp, fun b hb => by rw [h4 b (by omega), blk_add_old hb]⟩, h2, by rw [h3]; rfl⟩
def namedA (a : Ac) : Ac :=
  { kind := a.kind, cut := a.cut, keep := if 0 < a.cut ∨ a.kind = 12 then a.keep else ⟨#[]⟩, torn := if 0 < a.cut ∨ a.kind = 12 then a.torn else 0, at_ := if 0 < a.cut ∨ a.kind = 12 then a.at_ else 0,
    name := if a.kind ≠ 9 ∧ a.kind ≠ 11 ∧ a.kind ≠ 12 then a.name else ⟨#[]⟩, parent := if a.kind = 0 ∨ a.kind = 1 then a.parent else ⟨#[]⟩, to := if a.kind = 2 then a.to else ⟨#[]⟩,
    path := if a.kind = 5 ∨ a.kind = 6 ∨ a.kind = 7 then a.path else ⟨#[]⟩, text := if a.kind = 4 ∨ a.kind = 5 then a.text else ⟨#[]⟩ }
structure St (n : Nat) (a : Ac) (G : Heap) (e : Env) (c : Ac) : Prop where
  e1 : e 1 = .pointer (some ⟨n, 0, none⟩)
  e2 : e 2 = .pointer (some ⟨n + 1, 0, none⟩)
  e3 : e 3 = .pointer (some ⟨n + 2, 0, none⟩)
  v1 : IsA10 G n a
  v2 : VarA G (n + 1) zA
  v3 : VarA G (n + 2) c
theorem St.put {n : Nat} {a c c' : Ac} {G : Heap} (v1 : IsA10 G n a) (v2 : VarA G (n + 1) zA) (v3 : VarA G (n + 2) c) {j : Nat} (hj : j < 10) {v : Value} (hv : v.oneCell' = true) (hq : encA c' = (encA c).set j v) :
    ∃ X, G.store (n + 2) j [v] = some X ∧ IsA10 X n a ∧ VarA X (n + 1) zA ∧ VarA X (n + 2) c' := by
  obtain ⟨X, h1, h2, h3, h4⟩ := v3.put hj hv hq
  exact ⟨X, h1, v1.other (h4 _ (by omega)), v2.other (h4 _ (by omega)), h2⟩
def nm1 : IC := .seq (.reg c_ref20_named_r2) (.cond (.t 16) (.seq (.reg c_ref20_named_r3) (.seq (.reg c_ref20_named_r4) (.reg c_ref20_named_r5))) .skip)
def nm2 : IC := .seq (.reg c_ref20_named_r6) (.cond (.t 38) (.reg c_ref20_named_r7) .skip)
def nm3 : IC := (.seq (.reg c_ref20_named_r8) (.block 0 (.seq (.seq (.reg c_ref20_named_r9) (.cond (.t 44) .skip (.reg c_ref20_named_r10))) (.cond (.t 44) (.reg c_ref20_named_r11) (.seq (.reg c_ref20_named_r12) (.cond (.t 50) (.reg c_ref20_named_r13) (.seq (.reg c_ref20_named_r14) (.cond (.t 55) (.reg c_ref20_named_r15) (.seq (.reg c_ref20_named_r16) (.cond (.t 60) (.seq (.reg c_ref20_named_r17) (.reg c_ref20_named_r18)) (.seq (.seq (.reg c_ref20_named_r19) (.cond (.t 68) .skip (.reg c_ref20_named_r20))) (.cond (.t 68) (.reg c_ref20_named_r21) .skip))))))))))))
def nA0 (a : Ac) : Ac := { zA with kind := a.kind, cut := a.cut }
def nA1 (a c : Ac) : Ac := if 0 < a.cut ∨ a.kind = 12 then { c with keep := a.keep, torn := a.torn, at_ := a.at_ } else c
def nA2 (a c : Ac) : Ac := if a.kind ≠ 9 ∧ a.kind ≠ 11 ∧ a.kind ≠ 12 then { c with name := a.name } else c
def nA3 (a c : Ac) : Ac := if a.kind = 0 ∨ a.kind = 1 then { c with parent := a.parent } else if a.kind = 2 then { c with to := a.to } else if a.kind = 4 then { c with text := a.text } else if a.kind = 5 then { c with path := a.path, text := a.text } else if a.kind = 6 ∨ a.kind = 7 then { c with path := a.path } else c
theorem nm1_ok {n : Nat} {a c : Ac} {G : Heap} {e : Env} (s : St n a G e c) : wp (run K nm1 e G) fun x e' G' => x = .norm ∧ St n a G' e' (nA1 a c) := by
  have go : (0 < a.cut ∨ a.kind = 12) → ∃ X1 X2 X3, G.store (n + 2) 7 [.string a.keep] = some X1 ∧ X1.store (n + 2) 8 [.int .i64 a.torn] = some X2 ∧ X2.store (n + 2) 9 [.int .i64 a.at_] = some X3 ∧ IsA10 X1 n a ∧ IsA10 X2 n a ∧ IsA10 X3 n a ∧ VarA X3 (n + 1) zA ∧ VarA X3 (n + 2) (nA1 a c) := fun h => by
    obtain ⟨X1, x1, a1, b1, c1⟩ := St.put (c' := { c with keep := a.keep }) s.v1 s.v2 s.v3 (j := 7) (by omega) (v := .string a.keep) rfl rfl
    obtain ⟨X2, x2, a2, b2, c2⟩ := St.put (c' := { c with keep := a.keep, torn := a.torn }) a1 b1 c1 (j := 8) (by omega) (v := .int .i64 a.torn) rfl rfl
    obtain ⟨X3, x3, a3, b3, c3⟩ := St.put (c' := { c with keep := a.keep, torn := a.torn, at_ := a.at_ }) a2 b2 c2 (j := 9) (by omega) (v := .int .i64 a.at_) rfl rfl
    exact ⟨X1, X2, X3, x1, x2, x3, a1, a2, a3, b3, by unfold nA1; rw [if_pos h]; exact c3⟩
  by_cases h1 : 0 < a.cut
  · obtain ⟨X1, X2, X3, x1, x2, x3, a1, a2, a3, b3, c3⟩ := go (.inl h1)
    simp [nm1, s.e1, s.e3, s.v1.c6, s.v1.c0, s.v1.c7, a1.c8, a2.c9, h1, x1, x2, x3]
    exact ⟨s.e1, s.e2, s.e3, a3, b3, c3⟩
  · by_cases h2 : a.kind = 12
    · obtain ⟨X1, X2, X3, x1, x2, x3, a1, a2, a3, b3, c3⟩ := go (.inr h2)
      simp [nm1, s.e1, s.e3, s.v1.c6, s.v1.c0, s.v1.c7, a1.c8, a2.c9, h1, h2, x1, x2, x3]
      exact ⟨s.e1, s.e2, s.e3, a3, b3, c3⟩
    · have hn : nA1 a c = c := by unfold nA1; rw [if_neg (by simp [h1, h2])]
      rw [hn]
      simp [nm1, s.e1, s.e3, s.v1.c6, s.v1.c0, h1, h2]
      exact ⟨s.e1, s.e2, s.e3, s.v1, s.v2, s.v3⟩
theorem nm2_ok {n : Nat} {a c : Ac} {G : Heap} {e : Env} (s : St n a G e c) : wp (run K nm2 e G) fun x e' G' => x = .norm ∧ St n a G' e' (nA2 a c) := by
  by_cases h1 : a.kind = 9
  · have hn : nA2 a c = c := by unfold nA2; rw [if_neg (by simp [h1])]
    rw [hn]
    simp [nm2, s.e1, s.e3, s.v1.c0, h1]
    exact ⟨s.e1, s.e2, s.e3, s.v1, s.v2, s.v3⟩
  by_cases h2 : a.kind = 11
  · have hn : nA2 a c = c := by unfold nA2; rw [if_neg (by simp [h2])]
    rw [hn]
    simp [nm2, s.e1, s.e3, s.v1.c0, h2]
    exact ⟨s.e1, s.e2, s.e3, s.v1, s.v2, s.v3⟩
  by_cases h3 : a.kind = 12
  · have hn : nA2 a c = c := by unfold nA2; rw [if_neg (by simp [h3])]
    rw [hn]
    simp [nm2, s.e1, s.e3, s.v1.c0, h3]
    exact ⟨s.e1, s.e2, s.e3, s.v1, s.v2, s.v3⟩
  obtain ⟨X1, x1, a1, b1, c1⟩ := St.put (c' := nA2 a c) s.v1 s.v2 s.v3 (j := 1) (by omega) (v := .string a.name) rfl (by unfold nA2; rw [if_pos ⟨h1, h2, h3⟩]; rfl)
  simp [nm2, s.e1, s.e3, s.v1.c0, s.v1.c1, h1, h2, h3, x1]
  exact ⟨s.e1, s.e2, s.e3, a1, b1, c1⟩
theorem nm3_ok {n : Nat} {a c : Ac} {G : Heap} {e : Env} (s : St n a G e c) : wp (run K nm3 e G) fun x e' G' => x = .norm ∧ St n a G' e' (nA3 a c) := by
  have one : ∀ (j : Nat) (v : Value) (c' : Ac), j < 10 → v.oneCell' = true → encA c' = (encA c).set j v → ∃ X, G.store (n + 2) j [v] = some X ∧ IsA10 X n a ∧ VarA X (n + 1) zA ∧ VarA X (n + 2) c' := fun j v c' h1 h2 h3 => St.put s.v1 s.v2 s.v3 h1 h2 h3
  by_cases k0 : a.kind = 0
  · obtain ⟨X, x1, a1, b1, c1⟩ := one 2 (.string a.parent) (nA3 a c) (by omega) rfl (by unfold nA3; rw [if_pos (.inl k0)]; rfl)
    simp [nm3, s.e1, s.e3, s.v1.c0, s.v1.c2, k0, x1]
    exact ⟨s.e1, s.e2, s.e3, a1, b1, c1⟩
  by_cases k1 : a.kind = 1
  · obtain ⟨X, x1, a1, b1, c1⟩ := one 2 (.string a.parent) (nA3 a c) (by omega) rfl (by unfold nA3; rw [if_pos (.inr k1)]; rfl)
    simp [nm3, s.e1, s.e3, s.v1.c0, s.v1.c2, k1, x1]
    exact ⟨s.e1, s.e2, s.e3, a1, b1, c1⟩
  by_cases k2 : a.kind = 2
  · obtain ⟨X, x1, a1, b1, c1⟩ := one 3 (.string a.to) (nA3 a c) (by omega) rfl (by unfold nA3; simp only [k2]; rfl)
    simp [nm3, s.e1, s.e3, s.v1.c0, s.v1.c3, k2, x1]
    exact ⟨s.e1, s.e2, s.e3, a1, b1, c1⟩
  by_cases k4 : a.kind = 4
  · obtain ⟨X, x1, a1, b1, c1⟩ := one 5 (.string a.text) (nA3 a c) (by omega) rfl (by unfold nA3; simp only [k4]; rfl)
    simp [nm3, s.e1, s.e3, s.v1.c0, s.v1.c5, k4, x1]
    exact ⟨s.e1, s.e2, s.e3, a1, b1, c1⟩
  by_cases k5 : a.kind = 5
  · obtain ⟨X, x1, a1, b1, c1⟩ := one 4 (.string a.path) { c with path := a.path } (by omega) rfl rfl
    obtain ⟨Y, y1, a2, b2, c2⟩ := St.put (c' := nA3 a c) a1 b1 c1 (j := 5) (by omega) (v := .string a.text) rfl (by unfold nA3; simp only [k5]; rfl)
    simp [nm3, s.e1, s.e3, s.v1.c0, s.v1.c4, a1.c5, k5, x1, y1]
    exact ⟨s.e1, s.e2, s.e3, a2, b2, c2⟩
  by_cases k6 : a.kind = 6
  · obtain ⟨X, x1, a1, b1, c1⟩ := one 4 (.string a.path) (nA3 a c) (by omega) rfl (by unfold nA3; simp only [k6]; rfl)
    simp [nm3, s.e1, s.e3, s.v1.c0, s.v1.c4, k6, x1]
    exact ⟨s.e1, s.e2, s.e3, a1, b1, c1⟩
  by_cases k7 : a.kind = 7
  · obtain ⟨X, x1, a1, b1, c1⟩ := one 4 (.string a.path) (nA3 a c) (by omega) rfl (by unfold nA3; simp only [k7]; rfl)
    simp [nm3, s.e1, s.e3, s.v1.c0, s.v1.c4, k7, x1]
    exact ⟨s.e1, s.e2, s.e3, a1, b1, c1⟩
  have hn : nA3 a c = c := by unfold nA3; simp [k0, k1, k2, k4, k5, k6, k7]
  rw [hn]
  simp [nm3, s.e1, s.e3, s.v1.c0, k0, k1, k2, k4, k5, k6, k7]
  exact ⟨s.e1, s.e2, s.e3, s.v1, s.v2, s.v3⟩
theorem named_eq (a : Ac) : nA3 a (nA2 a (nA1 a (nA0 a))) = namedA a := by
  by_cases k0 : a.kind = 0
  · by_cases h : 0 < a.cut <;> simp [nA0, nA1, nA2, nA3, namedA, zA, k0, h]
  by_cases k1 : a.kind = 1
  · by_cases h : 0 < a.cut <;> simp [nA0, nA1, nA2, nA3, namedA, zA, k1, h]
  by_cases k2 : a.kind = 2
  · by_cases h : 0 < a.cut <;> simp [nA0, nA1, nA2, nA3, namedA, zA, k2, h]
  by_cases k4 : a.kind = 4
  · by_cases h : 0 < a.cut <;> simp [nA0, nA1, nA2, nA3, namedA, zA, k4, h]
  by_cases k5 : a.kind = 5
  · by_cases h : 0 < a.cut <;> simp [nA0, nA1, nA2, nA3, namedA, zA, k5, h]
  by_cases k6 : a.kind = 6
  · by_cases h : 0 < a.cut <;> simp [nA0, nA1, nA2, nA3, namedA, zA, k6, h]
  by_cases k7 : a.kind = 7
  · by_cases h : 0 < a.cut <;> simp [nA0, nA1, nA2, nA3, namedA, zA, k7, h]
  by_cases k9 : a.kind = 9
  · by_cases h : 0 < a.cut <;> simp [nA0, nA1, nA2, nA3, namedA, zA, k9, h]
  by_cases k11 : a.kind = 11
  · by_cases h : 0 < a.cut <;> simp [nA0, nA1, nA2, nA3, namedA, zA, k11, h]
  by_cases k12 : a.kind = 12
  · by_cases h : 0 < a.cut <;> simp [nA0, nA1, nA2, nA3, namedA, zA, k12, h]
  by_cases h : 0 < a.cut <;> simp [nA0, nA1, nA2, nA3, namedA, zA, h, k0, k1, k2, k4, k5, k6, k7, k9, k11, k12]
theorem named_ok (a : Ac) (H : Heap) : call K f_ref20_named [acV a] H = some (acV (namedA a), H) := by
  refine of_wpf (open_pure rfl fc_ref20_named rfl (Nat.le_of_ble_eq_true rfl) ?_)
  have hA : IsA10 (H.roAll.add (rowBlk 10 (encA a))) H.next a := isA_new H.roAll a
  generalize hX : H.roAll.add (rowBlk 10 (encA a)) = X at hA
  have hbox : step K.P (call K) (.box 10 (.t 0)) (env0 [acV a]) H.roAll = some (ptr H.next 0, X) := by
    subst hX; rfl
  have hXn : X.next = H.next + 1 := by subst hX; rfl
  have v2 := VarA.new X zA
  obtain ⟨Y, y1, E1, v3, yn⟩ := new_act (X.add (rowBlk 10 (encA zA))) (nA0 a)
  have hcode : c_ref20_named.code = .seq (.reg c_ref20_named_r0) (.seq (.reg c_ref20_named_r1) (.seq nm1 (.seq nm2 (.seq nm3 (.seq (.reg c_ref20_named_r22) .ret))))) := rfl
  rw [hcode, run_seq]
  refine wp_nxt ?_
  generalize hR : (IC.seq (.reg c_ref20_named_r1) (.seq nm1 (.seq nm2 (.seq nm3 (.seq (.reg c_ref20_named_r22) .ret))))) = R
  simp [hbox]
  subst hR
  rw [run_seq]
  refine wp_nxt ?_
  generalize hR : (IC.seq nm1 (.seq nm2 (.seq nm3 (.seq (.reg c_ref20_named_r22) .ret)))) = R
  have v1 : IsA10 (X.add (rowBlk 10 (encA zA))) H.next a := hA.other (blk_add_old (by omega))
  have v1Y : IsA10 Y H.next a := v1.other (E1.blk _ (by simp; omega))
  have v2Y : VarA Y (H.next + 1) zA := by rw [hXn] at v2; exact v2.other (E1.blk _ (by simp; omega))
  simp [hXn] at y1 v3 v1
  have y1' := y1
  rw [show encA (nA0 a) = [.int .i64 a.kind, .string ⟨#[]⟩, .string ⟨#[]⟩, .string ⟨#[]⟩, .string ⟨#[]⟩, .string ⟨#[]⟩, .int .i64 a.cut, .string ⟨#[]⟩, .int .i64 0, .int .i64 0] from rfl] at y1'
  simp [v1.c0, v1.c6, hXn, y1']
  subst hR
  rw [run_seq]
  refine wp_nxt ((nm1_ok (n := H.next) (a := a) (c := nA0 a) ⟨by simp, by simp, by simp, v1Y, v2Y, v3⟩).mono ?_)
  rintro x e G ⟨rfl, s⟩
  rw [thenQ_norm, run_seq]
  refine wp_nxt ((nm2_ok s).mono ?_)
  rintro x e G ⟨rfl, s⟩
  rw [thenQ_norm, run_seq]
  refine wp_nxt ((nm3_ok s).mono ?_)
  rintro x e G ⟨rfl, s⟩
  rw [named_eq] at s
  obtain ⟨Z, z1, z2, z3, z4⟩ := s.v2.store (namedA a)
  have hrow := s.v3.isA.row
  have hrz : Z.row (H.next + 1) 0 10 = some (encA (namedA a)) := z2.isA.row
  simp [s.e2, s.e3, hrow, encA_len, z1, hrz]
  exact List.all_eq_true.1 (show (encA (namedA a)).all flat1 = true from rfl)
end Go.AM
