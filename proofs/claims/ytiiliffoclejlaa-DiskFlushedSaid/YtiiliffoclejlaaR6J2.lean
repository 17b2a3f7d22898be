import Derived.Test.YtiiliffoclejlaaR6J1
import Derived.KernelRfl
section TextR6U
/- Contracts: which disks may be. -/
namespace Go.AM
open Go.Proofs
set_option linter.unusedVariables false
set_option linter.unusedSimpArgs false
set_option maxRecDepth 100000
attribute [-simp] ByteArray.size_eq_zero_iff
@[simp] theorem has_ok (x : Int) (H : Heap) : call K f_disk_has [.int .i64 x] H = some (.bool (decide (0 ≤ x ∧ x < 394)), H) := by
  refine of_wpf (open_pure rfl fc_disk_has rfl (Nat.le_of_ble_eq_true rfl) ?_)
  by_cases h : 0 ≤ x <;> simp [h]
@[simp] theorem dmay_ok (x : Int) (s : ByteArray) (H : Heap) : call K f_disk_may [.agg #[.int .i64 x, .string s]] H = some (.bool (wOk (x, s)), H) := by
  refine of_wpf (open_pure rfl fc_disk_may rfl (Nat.le_of_ble_eq_true rfl) ?_)
  by_cases h : 0 ≤ x ∧ x < 394 <;> by_cases h2 : s.size = 64 <;> simp [h, h2, wOk] <;> omega
@[simp] theorem rwmay_ok (x : Int) (s : ByteArray) (H : Heap) : call K f_ref1_writeMay [.agg #[.int .i64 x, .string s]] H = some (.bool (wOk (x, s)), H) := by
  refine of_wpf (open_pure rfl fc_ref1_writeMay rfl (Nat.le_of_ble_eq_true rfl) ?_)
  by_cases h : 0 ≤ x <;> by_cases h1 : x < 394 <;> by_cases h2 : s.size = 64 <;> simp [h, h1, h2, wOk] <;> omega
@[simp] theorem odd_ok (s : ByteArray) (H : Heap) : call K f_disk_May_1 [.string s] H = some (.bool (!decide (s.size = 64)), H) := by
  refine of_wpf (open_pure rfl fc_disk_May_1 rfl (Nat.le_of_ble_eq_true rfl) ?_)
  by_cases h : s.size = 64 <;> simp [h] <;> omega
@[simp] theorem badw_ok (x : Int) (s : ByteArray) (H : Heap) : call K f_disk_May_2 [.agg #[.int .i64 x, .string s]] H = some (.bool (!wOk (x, s)), H) := by
  refine of_wpf (open_pure rfl fc_disk_May_2 rfl (Nat.le_of_ble_eq_true rfl) ?_)
  simp
theorem all_take_succ {α : Type} (p : α → Bool) {xs : List α} {i : Nat} (h : i < xs.length) : (xs.take (i + 1)).all p = ((xs.take i).all p && p xs[i]) := by
  rw [List.take_succ_eq_append_getElem h, List.all_append]; simp
theorem all_no {α : Type} (p : α → Bool) {xs : List α} {i : Nat} (h : i < xs.length) (hp : p xs[i] = false) : xs.all p = false := by
  rw [List.all_eq_false]; exact ⟨xs[i], List.getElem_mem _, by simp [hp]⟩
theorem wpf_pure {r : Option (Value × Heap)} {H : Heap} {P : Value → Prop} (h : wpf r fun u G => P u ∧ G = H) : ∃ v, r = some (v, H) ∧ P v := by
  obtain ⟨u, G, h1, h2, rfl⟩ := h; exact ⟨u, h1, h2⟩
theorem indexS_ok (g : FuncId) (ok : ByteArray → Bool) (hg : ∀ x H, call K g [.string x] H = some (.bool (!ok x), H)) (v : Value) (xs : List ByteArray) (H : Heap) (h : Strs H v xs) :
    ∃ u, call K f_slices_IndexFunc_string_string [v, .func (.func g) #[] #[]] H = some (u, H) ∧ ∃ r : Int, u = .int .i64 r ∧ decide (0 ≤ r) = !xs.all ok := by
  obtain ⟨p, c, rfl⟩ := h.slice
  have hl := h.lim
  refine wpf_pure (open_pure rfl fc_slices_IndexFunc_string_string rfl (Nat.le_of_ble_eq_true rfl) ?_)
  simp
  refine wp_nxt (wp_for (fun d e G => ∃ i : Nat, d = xs.length - i ∧ i ≤ xs.length ∧ G = H.roAll ∧ e 0 = .slice p xs.length c ∧ e 1 = .func (.func g) #[] #[] ∧ e 7 = .int .i64 (xs.length : Int) ∧ e 8 = .int .i64 (i : Int) ∧ (xs.take i).all ok = true) xs.length ⟨0, by simp⟩ ?_)
  rintro d e G ⟨i, rfl, hi, rfl, h0, h1, h7, h8, hall⟩
  by_cases hlt : i < xs.length
  · obtain ⟨b, o, rfl, hb, k0⟩ := h.at1 hlt
    have hs := all_take_succ ok hlt
    have hn := all_no ok hlt
    generalize xs[i] = x at *
    simp at k0
    by_cases he : ok x = true
    · rw [hall, he] at hs
      simp [c_slices_IndexFunc_string_string_l7, h0, h1, h7, h8, hlt, k0, hg, he]
      exact ⟨xs.length - (i + 1), by omega, i + 1, rfl, hlt, wrap_succ (by omega), by simpa using hs⟩
    · have he' : ok x = false := by simpa using he
      simp [c_slices_IndexFunc_string_string_l7, h0, h1, h7, h8, hlt, k0, hg, he', hn he']
  · obtain rfl : i = xs.length := by omega
    rw [List.take_length] at hall
    simp [c_slices_IndexFunc_string_string_l7, h7, h8, hall]
theorem indexW_ok (g : FuncId) (ok : Img → Bool) (hg : ∀ x s H, call K g [.agg #[.int .i64 x, .string s]] H = some (.bool (!ok (x, s)), H)) (v : Value) (xs : List Img) (H : Heap) (h : Imgs H v xs) :
    ∃ u, call K f_slices_IndexFunc_Write [v, .func (.func g) #[] #[]] H = some (u, H) ∧ ∃ r : Int, u = .int .i64 r ∧ decide (0 ≤ r) = !xs.all ok := by
  obtain ⟨p, c, rfl⟩ := h.slice
  have hl := h.lim
  refine wpf_pure (open_pure rfl fc_slices_IndexFunc_Write rfl (Nat.le_of_ble_eq_true rfl) ?_)
  simp
  refine wp_nxt (wp_for (fun d e G => ∃ i : Nat, d = xs.length - i ∧ i ≤ xs.length ∧ G = H.roAll ∧ e 0 = .slice p xs.length c ∧ e 1 = .func (.func g) #[] #[] ∧ e 7 = .int .i64 (xs.length : Int) ∧ e 8 = .int .i64 (i : Int) ∧ (xs.take i).all ok = true) xs.length ⟨0, by simp⟩ ?_)
  rintro d e G ⟨i, rfl, hi, rfl, h0, h1, h7, h8, hall⟩
  by_cases hlt : i < xs.length
  · obtain ⟨b, o, rfl, hb, k0, k1⟩ := h.at2 hlt
    have hs := all_take_succ ok hlt
    have hn := all_no ok hlt
    generalize xs[i] = x at *
    obtain ⟨x, s⟩ := x
    simp at k0 k1
    by_cases he : ok (x, s) = true
    · rw [hall, he] at hs
      simp [c_slices_IndexFunc_Write_l7, h0, h1, h7, h8, hlt, k0, k1, hg, he]
      exact ⟨xs.length - (i + 1), by omega, i + 1, rfl, hlt, wrap_succ (by omega), by simpa using hs⟩
    · have he' : ok (x, s) = false := by simpa using he
      simp [c_slices_IndexFunc_Write_l7, h0, h1, h7, h8, hlt, k0, k1, hg, he', hn he']
  · obtain rfl : i = xs.length := by omega
    rw [List.take_length] at hall
    simp [c_slices_IndexFunc_Write_l7, h7, h8, hall]
theorem contS_ok (g : FuncId) (ok : ByteArray → Bool) (hg : ∀ x H, call K g [.string x] H = some (.bool (!ok x), H)) (v : Value) (xs : List ByteArray) (H : Heap) (h : Strs H v xs) :
    call K f_slices_ContainsFunc_string_string [v, .func (.func g) #[] #[]] H = some (.bool (!xs.all ok), H) := by
  refine of_wpf (open_pure rfl fc_slices_ContainsFunc_string_string rfl (Nat.le_of_ble_eq_true rfl) ?_)
  obtain ⟨_, c1, r, rfl, hr⟩ := indexS_ok g ok hg v xs _ h.roAll
  simp [c1, hr]
theorem contW_ok (g : FuncId) (ok : Img → Bool) (hg : ∀ x s H, call K g [.agg #[.int .i64 x, .string s]] H = some (.bool (!ok (x, s)), H)) (v : Value) (xs : List Img) (H : Heap) (h : Imgs H v xs) :
    call K f_slices_ContainsFunc_Write [v, .func (.func g) #[] #[]] H = some (.bool (!xs.all ok), H) := by
  refine of_wpf (open_pure rfl fc_slices_ContainsFunc_Write rfl (Nat.le_of_ble_eq_true rfl) ?_)
  obtain ⟨_, c1, r, rfl, hr⟩ := indexW_ok g ok hg v xs _ h.roAll
  simp [c1, hr]
theorem dskMay_ok (s c : Value) (d : Dk) (H : Heap) (hs : Strs H s d.1) (hc : Imgs H c d.2) : call K f_disk_May [.agg #[s, c]] H = some (.bool (dOk d), H) := by
  obtain ⟨S, C⟩ := d
  refine of_wpf (open_pure rfl fc_disk_May rfl (Nat.le_of_ble_eq_true rfl) ?_)
  have E := (Ext.refl H.roAll).add (rowBlk 2 [s, c])
  have a := contS_ok f_disk_May_1 (fun s => decide (s.size = 64)) (fun x H => odd_ok x H) s S (H.roAll.add (rowBlk 2 [s, c])) (hs.roAll.ext E)
  have b := contW_ok f_disk_May_2 wOk (fun x s H => badw_ok x s H) c C (H.roAll.add (rowBlk 2 [s, c])) (hc.roAll.ext E)
  obtain ⟨p, k, rfl⟩ := hs.slice
  obtain ⟨q, m, rfl⟩ := hc.slice
  simp only at a b ⊢
  by_cases h1 : S.length = 394 <;> by_cases h2 : C.length ≤ 512 <;> by_cases h3 : (S.all fun s => decide (s.size = 64)) = true
  all_goals
    have g1 : decide ((S.length : Int) = 394) = decide (S.length = 394) := by congr 1; apply propext; omega
    have g2 : decide ((C.length : Int) ≤ 512) = decide (C.length ≤ 512) := by congr 1; apply propext; omega
  all_goals first | (simp only [h1] at a b; simp [h1, h2, h3, a, b, dOk, g1, g2]) | simp [h1, h2, h3, a, b, dOk, g1, g2]
  all_goals omega
theorem rdskMay_ok (s c : Value) (d : Dk) (H : Heap) (hs : Strs H s d.1) (hc : Imgs H c d.2) : call K f_ref1_DiskMay [.agg #[s, c]] H = some (.bool (dOk d), H) := by
  obtain ⟨S, C⟩ := d
  obtain ⟨p, k, rfl⟩ := hs.slice
  obtain ⟨q, m, rfl⟩ := hc.slice
  have hl1 := hs.lim; have hl2 := hc.lim
  refine of_wpf (open_pure rfl fc_ref1_DiskMay rfl (Nat.le_of_ble_eq_true rfl) ?_)
  simp only at hl1 hl2 hs hc ⊢
  obtain ⟨G0, hG0⟩ : ∃ G0, G0 = H.roAll.add (rowBlk 2 [.slice p S.length k, .slice q C.length m]) := ⟨_, rfl⟩
  have E : Ext H.roAll G0 := by subst hG0; exact (Ext.refl H.roAll).add _
  have f0 : G0.cell H.next 0 = some (.slice p S.length k) := by subst hG0; simp
  have f1 : G0.cell H.next 1 = some (.slice q C.length m) := by subst hG0; simp
  have hs' := hs.roAll.ext E
  have hc' := hc.roAll.ext E
  simp [← hG0]
  refine wp_nxt (wp_for (fun d e G => ∃ i : Nat, d = S.length - i ∧ i ≤ S.length ∧ G = G0 ∧ e 1 = .pointer (some ⟨H.next, 0, none⟩) ∧ e 3 = .int .i64 (i : Int) ∧ ((S.take i).all fun s => decide (s.size = 64)) = true) S.length ⟨0, by simp⟩ ?_)
  rintro d e G ⟨i, rfl, hi, hG, h1, h3, hall⟩
  subst G
  by_cases hlt : i < S.length
  · obtain ⟨b, o, rfl, hb, k0⟩ := hs'.at1 hlt
    have ht := all_take_succ (fun s : ByteArray => decide (s.size = 64)) hlt
    have hn := all_no (fun s : ByteArray => decide (s.size = 64)) hlt
    generalize S[i] = x at *
    simp at k0
    by_cases he : x.size = 64
    · rw [hall] at ht
      simp [he] at ht
      simp [c_ref1_DiskMay_l6, h1, h3, hlt, k0, f0, he]
      exact ⟨S.length - (i + 1), by omega, i + 1, rfl, hlt, wrap_succ (by omega), ht⟩
    · have hn' := hn (by simpa using he)
      have he' : ¬ (x.size : Int) = 64 := by omega
      simp [c_ref1_DiskMay_l6, h1, h3, hlt, k0, f0, he', dOk, hn']
  · obtain rfl : i = S.length := by omega
    rw [List.take_length] at hall
    simp [c_ref1_DiskMay_l6, h1, h3, f0]
    refine wp_nxt (wp_for (fun d e G => ∃ i : Nat, d = C.length - i ∧ i ≤ C.length ∧ G = G0 ∧ e 1 = .pointer (some ⟨H.next, 0, none⟩) ∧ e 4 = .int .i64 (i : Int) ∧ (C.take i).all wOk = true) C.length ⟨0, by simp [h1]⟩ ?_)
    rintro d e G ⟨i, rfl, hi, hG, h1, h4, hallC⟩
    subst G
    by_cases hlt : i < C.length
    · obtain ⟨b, o, rfl, hb, k0, k1⟩ := hc'.at2 hlt
      have ht := all_take_succ wOk hlt
      have hn := all_no wOk hlt
      generalize C[i] = x at *
      obtain ⟨x, s⟩ := x
      simp at k0 k1
      by_cases he : wOk (x, s) = true
      · rw [hallC, he] at ht
        simp [c_ref1_DiskMay_l12, h1, h4, hlt, k0, k1, f1, he]
        exact ⟨C.length - (i + 1), by omega, i + 1, rfl, hlt, wrap_succ (by omega), by simpa using ht⟩
      · have he' : wOk (x, s) = false := by simpa using he
        simp [c_ref1_DiskMay_l12, h1, h4, hlt, k0, k1, f1, he', dOk, hn he']
    · obtain rfl : i = C.length := by omega
      rw [List.take_length] at hallC
      have g1 : decide ((S.length : Int) = 394) = decide (S.length = 394) := by congr 1; apply propext; omega
      have g2 : decide ((C.length : Int) ≤ 512) = decide (C.length ≤ 512) := by congr 1; apply propext; omega
      by_cases hS : S.length = 394 <;> simp [c_ref1_DiskMay_l12, h1, h4, f0, f1, dOk, hall, hallC, hS, g1, g2] <;> omega
end Go.AM
end TextR6U
section TextR6V
/- Contracts: disks copied, compared, spoilt. -/
namespace Go.AM
open Go.Proofs
set_option linter.unusedVariables false
set_option linter.unusedSimpArgs false
set_option maxRecDepth 100000
attribute [-simp] ByteArray.size_eq_zero_iff
theorem binV_nilS {t e : TypeId} (h : K.P.underlying t = some (.slice e)) (a : Addr) (n c : Nat) : binV K.P .eql t (.slice (some a) n c) (.slice none 0 0) = some (.bool false) := by
  unfold binV
  rw [if_neg (by simp [flat1, flat2]), h]
  rfl
theorem pv_bind2 {α β : Type} (P : Program) (f : α → Sem β) : ∀ (s : Sem α) (a : α), pv P s = some a → pv P (s.bind f) = pv P (f a)
  | .pure b, a, h => by cases h; rfl
  | .program k, a, h => by simp only [Sem.bind, pv] at h ⊢; exact pv_bind2 P f (k P) a h
  | .mark _ k, a, h => by simp only [Sem.bind, pv] at h ⊢; exact pv_bind2 P f k a h
theorem binV_nilN {t e : TypeId} (h : K.P.underlying t = some (.slice e)) : binV K.P .eql t (.slice none 0 0) (.slice none 0 0) = some (.bool true) := by
  unfold binV
  rw [if_pos (by simp [flat1, flat2, bothNilIface])]
  have h2 : pv K.P (Op.equalIn (9999 + 1) t (.slice none 0 0) (.slice none 0 0)) = some true := by
    unfold Op.equalIn
    refine (pv_bind2 _ _ _ (.slice e) ?_).trans ?_
    · unfold underlying
      refine (pv_bind2 _ _ _ K.P rfl).trans ?_
      rw [h]; rfl
    · rfl
  have h3 : pv K.P (binOp .eql t (.slice none 0 0) (.slice none 0 0)) = some (.bool true) := by
    show pv K.P (Sem.bind (Op.equalIn Op.maxDepth t (.slice none 0 0) (.slice none 0 0)) _) = _
    exact (pv_bind2 _ _ _ true h2).trans rfl
  have h4 : pv K.P (eqGuard .eql t (.tmp 0) (.tmp 0) (.slice none 0 0) (.slice none 0 0)) = some () := by rfl
  show flatRes (pv K.P (Sem.bind (eqGuard .eql t (.tmp 0) (.tmp 0) (.slice none 0 0) (.slice none 0 0)) fun _ => binOp .eql t (.slice none 0 0) (.slice none 0 0))) = _
  rw [pv_bind2 _ _ _ () h4, h3]; rfl
theorem undStrs : K.P.underlying tyStrs = some (.slice tyStr) := by kernel_rfl
theorem undWrs : ∃ e, K.P.underlying tyWrs = some (.slice e) := by
  have h : (match K.P.underlying tyWrs with | some (.slice _) => true | _ => false) = true := by kernel_rfl
  split at h
  · exact ⟨_, by assumption⟩
  · cases h
/-- An append to a slice of no room: what is there is copied. -/
theorem empty_app {α : Type} {enc : α → List Value} {sz n0 b : Nat} {H : Heap} {y : Value} {ys : List α} (hy : Rows enc sz H y ys) (he : ∀ x, (enc x).length = sz) (h1 : ∀ x, (enc x).all Value.oneCell' = true) {bytes : Nat} (hb : n0 ≤ b) (hbn : b < H.next)
    (h2 : ys.length * bytes ≤ 2 ^ 47) (h3 : ys.length ≤ 2 ^ 47) :
    ∃ v' H', AM.appE sz bytes (.slice (some ⟨b, 0, none⟩) 0 1) y H = some (v', H') ∧ Ext H H' ∧ OwnZ enc sz n0 H' v' ys ∧ ∀ k, k < H.next → k ≠ b → NotIn v' k := by
  rw [hy.appE he]
  by_cases hk : ys.length = 0
  · obtain rfl : ys = [] := List.eq_nil_of_length_eq_zero hk
    exact ⟨_, H, rfl, Ext.refl _, .inr ⟨rfl, b, rfl, hb, hbn⟩, fun k hk hne a n c e => by cases e; exact hne⟩
  · refine ⟨.slice (some ⟨H.next, 0, none⟩) ys.length (2 * ys.length), H.add (rowBlk sz (ys.flatMap enc)), ?_, (Ext.refl H).add _, .inl (Own.new' rfl (by omega) (by omega) rfl), fun k hk hne a n c e => by cases e; simp only; omega⟩
    unfold appV
    rw [if_neg hk]
    simp only [Nat.zero_add]
    rw [if_neg (by omega), if_pos ⟨h2, h3, one_flat h1 ys⟩]
    simp
theorem encI_one (x : Img) : (encI x).all Value.oneCell' = true := rfl
theorem OwnZ.rows {α : Type} {enc : α → List Value} {sz n0 : Nat} {H : Heap} {v : Value} {xs : List α} (h : OwnZ enc sz n0 H v xs) (he : ∀ x, (enc x).length = sz) : Rows enc sz H v xs := by
  rcases h with h | ⟨rfl, b, rfl, hb, hbn⟩
  · exact h.rows he
  · exact ⟨by simp, some ⟨b, 0, none⟩, 1, rfl, .inr ⟨b, 0, rfl, hbn, by simp, fun i hi => by simp at hi⟩⟩
theorem OwnZ.low {α : Type} {enc : α → List Value} {sz n0 m : Nat} {H : Heap} {v : Value} {xs : List α} (h : OwnZ enc sz n0 H v xs) (hm : m ≤ n0) : OwnZ enc sz m H v xs := by
  rcases h with h | ⟨rfl, b, rfl, hb, hbn⟩
  · exact .inl (h.low hm)
  · exact .inr ⟨rfl, b, rfl, by omega, hbn⟩
theorem OwnZ.nil {α : Type} {enc : α → List Value} {sz n0 : Nat} {H : Heap} : OwnZ enc sz n0 H (.slice none 0 0) ([] : List α) := .inl Own.nil
theorem OwnZ.notIn {α : Type} {enc : α → List Value} {sz n0 : Nat} {H : Heap} {v : Value} {xs : List α} (h : OwnZ enc sz n0 H v xs) {b : Nat} (hb : b < n0) : NotIn v b := by
  rcases h with h | ⟨rfl, b', rfl, hb', hbn⟩
  · exact h.notIn hb
  · intro a n c e; cases e; simp only; omega
theorem OwnZ.below {α : Type} {enc : α → List Value} {sz n0 : Nat} {H : Heap} {v : Value} {xs : List α} (h : OwnZ enc sz n0 H v xs) : BelowB v H.next := by
  rcases h with h | ⟨rfl, b', rfl, hb', hbn⟩
  · exact h.below
  · intro a n c e; cases e; exact hbn
theorem OwnZ.own {α : Type} {enc : α → List Value} {sz n0 : Nat} {H : Heap} {v : Value} {xs : List α} (h : OwnZ enc sz n0 H v xs) (hne : xs ≠ []) : Own enc sz n0 H v xs := by
  rcases h with h | ⟨rfl, _⟩
  · exact h
  · exact absurd rfl hne
theorem OwnZ.frame {α : Type} {enc : α → List Value} {sz n0 : Nat} {H H' : Heap} {v : Value} {xs : List α} (h : OwnZ enc sz n0 H v xs) (hn : H.next ≤ H'.next) (hb : ∀ b, n0 ≤ b → b < H.next → ¬ NotIn v b → H'.blk b = H.blk b) : OwnZ enc sz n0 H' v xs := by
  rcases h with h | ⟨h1, b', h2, hb', hbn⟩
  · exact .inl (h.frame hn hb)
  · exact .inr ⟨h1, b', h2, hb', by omega⟩
theorem cloneS_ok (v : Value) (xs : List ByteArray) (H : Heap) (h : Strs H v xs) (hw : xs.length ≤ 1000) : wpf (call K f_slices_Clone_string_string [v] H) fun r H' => Ext H H' ∧ OwnZ encS 1 H.next H' r xs := by
  refine open_plain rfl fc_slices_Clone_string_string rfl (Nat.le_of_ble_eq_true rfl) ?_
  obtain ⟨hl, p, c, rfl, hp⟩ := id h
  rcases hp with ⟨rfl, rfl, rfl⟩ | ⟨b, o, rfl, hb, _⟩
  · simp [binV_nilN undStrs]
    exact ⟨Ext.refl _, OwnZ.nil⟩
  · obtain ⟨v', H', c1, E1, o1, _⟩ := empty_app (n0 := H.next) (b := H.next) (H := H.add (rowBlk 1 [])) (h.ext ((Ext.refl H).add _)) encS_len encS_one (bytes := 16) (Nat.le_refl _) (by simp) (by omega) (by omega)
    simp at c1
    simp [binV_nilS undStrs, c1]
    exact ⟨((Ext.refl H).add _).trans E1, o1⟩
theorem cloneW_ok (v : Value) (xs : List Img) (H : Heap) (h : Imgs H v xs) (hw : xs.length ≤ 1000) : wpf (call K f_slices_Clone_Write [v] H) fun r H' => Ext H H' ∧ OwnZ encI 2 H.next H' r xs := by
  refine open_plain rfl fc_slices_Clone_Write rfl (Nat.le_of_ble_eq_true rfl) ?_
  obtain ⟨hl, p, c, rfl, hp⟩ := id h
  obtain ⟨_, hu⟩ := undWrs
  rcases hp with ⟨rfl, rfl, rfl⟩ | ⟨b, o, rfl, hb, _⟩
  · simp [binV_nilN hu]
    exact ⟨Ext.refl _, OwnZ.nil⟩
  · obtain ⟨v', H', c1, E1, o1, _⟩ := empty_app (n0 := H.next) (b := H.next) (H := H.add (rowBlk 2 [])) (h.ext ((Ext.refl H).add _)) encI_len encI_one (bytes := 24) (Nat.le_refl _) (by simp) (by omega) (by omega)
    simp at c1
    simp [binV_nilS hu, c1]
    exact ⟨((Ext.refl H).add _).trans E1, o1⟩
/-- A disk's value. -/
def DkR (H : Heap) (v : Value) (d : Dk) : Prop := ∃ s c, v = .agg #[s, c] ∧ Strs H s d.1 ∧ Imgs H c d.2
theorem DkR.ext {H H' : Heap} {v : Value} {d : Dk} (h : DkR H v d) (hE : Ext H H') : DkR H' v d := by
  obtain ⟨s, c, h1, h2, h3⟩ := h; exact ⟨s, c, h1, h2.ext hE, h3.ext hE⟩
theorem DkR.roAll {H : Heap} {v : Value} {d : Dk} (h : DkR H v d) : DkR H.roAll v d := by
  obtain ⟨s, c, h1, h2, h3⟩ := h; exact ⟨s, c, h1, h2.roAll, h3.roAll⟩
/-- .. of one's own. -/
def OwnD (n0 : Nat) (H : Heap) (v : Value) (d : Dk) : Prop := ∃ s c, v = .agg #[s, c] ∧ OwnZ encS 1 n0 H s d.1 ∧ OwnZ encI 2 n0 H c d.2 ∧ ∀ b, ¬ NotIn s b → NotIn c b
theorem OwnD.dk {n0 : Nat} {H : Heap} {v : Value} {d : Dk} (h : OwnD n0 H v d) : DkR H v d := by
  obtain ⟨s, c, h1, h2, h3, _⟩ := h; exact ⟨s, c, h1, h2.rows encS_len, h3.rows encI_len⟩
theorem OwnD.ext {n0 : Nat} {H H' : Heap} {v : Value} {d : Dk} (h : OwnD n0 H v d) (hE : Ext H H') : OwnD n0 H' v d := by
  obtain ⟨s, c, h1, h2, h3, h4⟩ := h; exact ⟨s, c, h1, h2.ext hE, h3.ext hE, h4⟩
theorem OwnD.low {n0 m : Nat} {H : Heap} {v : Value} {d : Dk} (h : OwnD n0 H v d) (hm : m ≤ n0) : OwnD m H v d := by
  obtain ⟨s, c, h1, h2, h3, h4⟩ := h; exact ⟨s, c, h1, h2.low hm, h3.low hm, h4⟩
theorem notIn_nil {n c b : Nat} : NotIn (.slice none n c) b := fun a n c e => by cases e
theorem OwnD.nil {n0 : Nat} {H : Heap} : OwnD n0 H (.agg #[.slice none 0 0, .slice none 0 0]) ([], []) := ⟨_, _, rfl, OwnZ.nil, OwnZ.nil, fun b _ => notIn_nil⟩
/-- Block b is none of a disk's. -/
def FarD (v : Value) (b : Nat) : Prop := ∃ s c, v = .agg #[s, c] ∧ NotIn s b ∧ NotIn c b
theorem OwnD.far {n0 b : Nat} {H : Heap} {v : Value} {d : Dk} (h : OwnD n0 H v d) (hb : b < n0) : FarD v b := by
  obtain ⟨s, c, h1, h2, h3, h4⟩ := h; exact ⟨s, c, h1, h2.notIn hb, h3.notIn hb⟩
theorem OwnD.far2 {n0 b : Nat} {H : Heap} {v : Value} {d : Dk} (h : OwnD n0 H v d) (hb : H.next ≤ b) : FarD v b := by
  obtain ⟨s, c, h1, h2, h3, h4⟩ := h; exact ⟨s, c, h1, h2.below.notIn hb, h3.below.notIn hb⟩
theorem OwnD.frame {n0 : Nat} {H H' : Heap} {v : Value} {d : Dk} (h : OwnD n0 H v d) (hn : H.next ≤ H'.next) (hb : ∀ b, n0 ≤ b → b < H.next → ¬ FarD v b → H'.blk b = H.blk b) : OwnD n0 H' v d := by
  obtain ⟨s, c, rfl, h2, h3, h4⟩ := h
  refine ⟨s, c, rfl, h2.frame hn fun b h1 h2 h3 => hb b h1 h2 ?_, h3.frame hn fun b h1 h2 h3 => hb b h1 h2 ?_, h4⟩
  · rintro ⟨s', c', e, g1, _⟩; cases e; exact h3 g1
  · rintro ⟨s', c', e, _, g1⟩; cases e; exact h3 g1
theorem copyD_ok (v : Value) (d : Dk) (H : Heap) (h : DkR H v d) (h1 : (d.1.length + 2) * 16 ≤ 140737488355328) (h2 : (d.2.length + 2) * 24 ≤ 140737488355328) : wpf (call K f_law0_CopyDisk [v] H) fun r H' => Ext H H' ∧ OwnD H.next H' r d := by
  obtain ⟨s, c, rfl, hs, hc⟩ := h
  obtain ⟨S, C⟩ := d
  simp only at hs hc h1 h2
  refine open_plain rfl fc_law0_CopyDisk rfl (Nat.le_of_ble_eq_true rfl) ?_
  obtain ⟨ps, ks, rfl⟩ := hs.slice
  obtain ⟨pc, kc, rfl⟩ := hc.slice
  obtain ⟨G0, hG0⟩ : ∃ G0, G0 = (((H.add (rowBlk 2 [.slice ps S.length ks, .slice pc C.length kc])).add (rowBlk 2 [.slice none 0 0, .slice none 0 0])).add (rowBlk 1 [])).add (rowBlk 2 []) := ⟨_, rfl⟩
  have E0 : Ext H G0 := by subst hG0; exact ((((Ext.refl H).add _).add _).add _).add _
  have n0 : G0.next = H.next + 4 := by subst hG0; simp
  obtain ⟨v1, G1, c1, E1, o1, f1⟩ := empty_app (n0 := H.next) (b := H.next + 1 + 1) (hs.ext E0) encS_len encS_one (bytes := 16) (by omega) (by omega) (by omega) (by omega)
  obtain ⟨v2, G2, c2, E2, o2, f2⟩ := empty_app (n0 := H.next) (b := H.next + 1 + 1 + 1) ((hc.ext E0).ext E1) encI_len encI_one (bytes := 24) (by omega) (by have := E1.next; omega) (by omega) (by omega)
  have k1 : G1.cell H.next 1 = some (.slice pc C.length kc) := by rw [E1.cell (by omega)]; subst hG0; simp; omega
  have k0 : G0.cell H.next 1 = some (.slice pc C.length kc) := by subst hG0; simp; omega
  have b1 : G2.blk (H.next + 1) = some (rowBlk 2 [.slice none 0 0, .slice none 0 0]) := by rw [E2.blk _ (by have := E1.next; omega), E1.blk _ (by omega)]; subst hG0; simp
  have q2 : G2.cell (H.next + 1) = (rowBlk 2 [.slice none 0 0, .slice none 0 0]).at_ := by funext o; simp only [Heap.cell, b1]
  have e1 := E1.next; have e2 := E2.next
  obtain ⟨p1, m1, hv1⟩ := (o1.rows encS_len).slice
  obtain ⟨p2, m2, hv2⟩ := (o2.rows encI_len).slice
  rw [hv1] at c1
  rw [hv2] at c2
  have x2 : ¬ H.next = H.next + 1 + 1 := by omega
  have x3 : ¬ H.next = H.next + 1 + 1 + 1 := by omega
  simp [run_regd_tr, finD_some, Chk, wanted, x2, x3, ← hG0, c1, k0, k1, c2, b1, q2]
  have hE : Ext H (G2.set (H.next + 1) (some (((rowBlk 2 [.slice none 0 0, .slice none 0 0]).put 0 (.slice p1 S.length m1)).put 1 (.slice p2 C.length m2)))) := (E0.trans (E1.trans E2)).set (by omega) _
  refine ⟨hE, .slice p1 S.length m1, .slice p2 C.length m2, rfl, ?_, ?_, ?_⟩
  · rw [← hv1]
    exact (o1.ext E2).frame (by simp) fun b _ _ hb => blk_set_ne fun e => hb (by subst e; exact f1 _ (by omega) (by omega))
  · rw [← hv2]
    exact o2.frame (by simp) fun b _ _ hb => blk_set_ne fun e => hb (by subst e; exact f2 _ (by omega) (by omega))
  · intro b hb
    rw [← hv1] at hb
    rw [← hv2]
    refine f2 b (Nat.lt_of_not_le fun h => hb (o1.below.notIn h)) fun e => hb ?_
    subst e
    exact f1 _ (by omega) (by omega)
end Go.AM
end TextR6V
section TextR6W
/- Contracts: disks compared, read; sectors torn, made. -/
namespace Go.AM
open Go.Proofs
set_option linter.unusedVariables false
set_option linter.unusedSimpArgs false
set_option maxRecDepth 100000
attribute [-simp] ByteArray.size_eq_zero_iff
theorem rcopyD_ok (v : Value) (d : Dk) (H : Heap) (h : DkR H v d) (h1 : (d.1.length + 2) * 16 ≤ 140737488355328) (h2 : (d.2.length + 2) * 24 ≤ 140737488355328) : wpf (call K f_ref1_CopyDisk [v] H) fun r H' => Ext H H' ∧ OwnD H.next H' r d := by
  obtain ⟨s, c, rfl, hs, hc⟩ := h
  obtain ⟨S, C⟩ := d
  simp only at hs hc h1 h2
  refine open_plain rfl fc_ref1_CopyDisk rfl (Nat.le_of_ble_eq_true rfl) ?_
  obtain ⟨ps, ks, rfl⟩ := hs.slice
  obtain ⟨pc, kc, rfl⟩ := hc.slice
  obtain ⟨G0, hG0⟩ : ∃ G0, G0 = (((H.add (rowBlk 2 [.slice ps S.length ks, .slice pc C.length kc])).add (rowBlk 2 [.slice none 0 0, .slice none 0 0])).add (rowBlk 1 [])).add (rowBlk 2 []) := ⟨_, rfl⟩
  have E0 : Ext H G0 := by subst hG0; exact ((((Ext.refl H).add _).add _).add _).add _
  have n0 : G0.next = H.next + 4 := by subst hG0; simp
  obtain ⟨v1, G1, c1, E1, o1, f1⟩ := empty_app (n0 := H.next) (b := H.next + 1 + 1) (hs.ext E0) encS_len encS_one (bytes := 16) (by omega) (by omega) (by omega) (by omega)
  obtain ⟨v2, G2, c2, E2, o2, f2⟩ := empty_app (n0 := H.next) (b := H.next + 1 + 1 + 1) ((hc.ext E0).ext E1) encI_len encI_one (bytes := 24) (by omega) (by have := E1.next; omega) (by omega) (by omega)
  have k1 : G1.cell H.next 1 = some (.slice pc C.length kc) := by rw [E1.cell (by omega)]; subst hG0; simp; omega
  have k0 : G0.cell H.next 1 = some (.slice pc C.length kc) := by subst hG0; simp; omega
  have b1 : G2.blk (H.next + 1) = some (rowBlk 2 [.slice none 0 0, .slice none 0 0]) := by rw [E2.blk _ (by have := E1.next; omega), E1.blk _ (by omega)]; subst hG0; simp
  have q2 : G2.cell (H.next + 1) = (rowBlk 2 [.slice none 0 0, .slice none 0 0]).at_ := by funext o; simp only [Heap.cell, b1]
  have e1 := E1.next; have e2 := E2.next
  obtain ⟨p1, m1, hv1⟩ := (o1.rows encS_len).slice
  obtain ⟨p2, m2, hv2⟩ := (o2.rows encI_len).slice
  rw [hv1] at c1
  rw [hv2] at c2
  have x2 : ¬ H.next = H.next + 1 + 1 := by omega
  have x3 : ¬ H.next = H.next + 1 + 1 + 1 := by omega
  simp [run_regd_tr, finD_some, Chk, wanted, x2, x3, ← hG0, c1, k0, k1, c2, b1, q2]
  have hE : Ext H (G2.set (H.next + 1) (some (((rowBlk 2 [.slice none 0 0, .slice none 0 0]).put 0 (.slice p1 S.length m1)).put 1 (.slice p2 C.length m2)))) := (E0.trans (E1.trans E2)).set (by omega) _
  refine ⟨hE, .slice p1 S.length m1, .slice p2 C.length m2, rfl, ?_, ?_, ?_⟩
  · rw [← hv1]
    exact (o1.ext E2).frame (by simp) fun b _ _ hb => blk_set_ne fun e => hb (by subst e; exact f1 _ (by omega) (by omega))
  · rw [← hv2]
    exact o2.frame (by simp) fun b _ _ hb => blk_set_ne fun e => hb (by subst e; exact f2 _ (by omega) (by omega))
  · intro b hb
    rw [← hv1] at hb
    rw [← hv2]
    refine f2 b (Nat.lt_of_not_le fun h => hb (o1.below.notIn h)) fun e => hb ?_
    subst e
    exact f1 _ (by omega) (by omega)
theorem sameWrites_ok (va vb : Value) (xs ys : List Img) (H : Heap) (ha : Imgs H va xs) (hb : Imgs H vb ys) : call K f_law0_SameWrites [va, vb] H = some (.bool (decide (xs = ys)), H) := by
  obtain ⟨p, c, rfl⟩ := ha.slice
  obtain ⟨q, d, rfl⟩ := hb.slice
  have hl := ha.lim
  refine of_wpf (open_pure rfl fc_law0_SameWrites rfl (Nat.le_of_ble_eq_true rfl) ?_)
  by_cases hlen : xs.length = ys.length
  · simp [hlen]
    refine wp_nxt (wp_for (fun k e H' => ∃ i, k = ys.length - i ∧ i ≤ ys.length ∧ H' = H.roAll ∧ e 5 = .int .i64 (i : Int) ∧ e 0 = .slice p ys.length c ∧ e 1 = .slice q ys.length d ∧ xs.take i = ys.take i) ys.length ⟨0, by simp⟩ ?_)
    rintro k e H' ⟨i, rfl, hi, rfl, h5, h0, h1, heq⟩
    by_cases hlt2 : i < ys.length
    · have hlt : i < xs.length := by omega
      obtain ⟨b, o, rfl, hb1, k0, k1⟩ := ha.at2 hlt
      obtain ⟨b2, o2, rfl, hb2, j0, j1⟩ := hb.at2 hlt2
      have hst := take_succ_eq hlt hlt2
      have hne : xs[i] ≠ ys[i] → xs ≠ ys := fun hn he => hn (by subst he; rfl)
      generalize xs[i] = x at *
      generalize ys[i] = y at *
      simp at k0 k1 j0 j1
      by_cases he : x = y
      · subst he
        simp [c_law0_SameWrites_l8, h5, h0, h1, hlt, hlt2, k0, k1, j0, j1]
        exact ⟨ys.length - (i + 1), by omega, i + 1, rfl, hlt2, wrap_succ (by omega), hst.2 ⟨heq, rfl⟩⟩
      · have hd0 : ¬ (x.1 = y.1 ∧ x.2 = y.2) := fun hh => he (Prod.ext hh.1 hh.2)
        have hd : ¬ x.1 = y.1 ∨ ¬ x.2 = y.2 := by simpa only [Classical.not_and_iff_not_or_not] using hd0
        have hf := hne he
        simp [c_law0_SameWrites_l8, h5, h0, h1, hlt, hlt2, k0, k1, j0, j1, hd, hf]
        
    · have : i = ys.length := by omega
      subst this
      simp [c_law0_SameWrites_l8, h5, h0]
      rw [List.take_length, ← hlen, List.take_length] at heq
      exact heq
  · simp [hlen]
    intro h
    subst h
    exact hlen rfl
theorem sameDisk_ok (va vb : Value) (a b : Dk) (H : Heap) (ha : DkR H va a) (hb : DkR H vb b) : call K f_law0_SameDisk [va, vb] H = some (.bool (decide (a = b)), H) := by
  obtain ⟨s, c, rfl, hs, hc⟩ := ha
  obtain ⟨s', c', rfl, hs', hc'⟩ := hb
  obtain ⟨S, C⟩ := a
  obtain ⟨S', C'⟩ := b
  refine of_wpf (open_pure rfl fc_law0_SameDisk rfl (Nat.le_of_ble_eq_true rfl) ?_)
  have E : ∀ X Y, Ext H.roAll ((H.roAll.add X).add Y) := fun X Y => ((Ext.refl _).add _).add _
  have c1 := fun X Y => sameTexts_ok s s' S S' _ (hs.roAll.ext (E X Y)) (hs'.roAll.ext (E X Y))
  have c2 := fun X Y => sameWrites_ok c c' C C' _ (hc.roAll.ext (E X Y)) (hc'.roAll.ext (E X Y))
  obtain ⟨p, k, rfl⟩ := hs.slice
  obtain ⟨p, k, rfl⟩ := hs'.slice
  obtain ⟨p, k, rfl⟩ := hc.slice
  obtain ⟨p, k, rfl⟩ := hc'.slice
  have x1 : ¬ H.next = H.next + 1 := by omega
  simp only at c1 c2
  by_cases h : S = S'
  · subst h; simp [c1, c2, x1]
  · simp [c1, c2, h, x1]
def tornR (old new : ByteArray) (at_ : Int) : ByteArray := if (old.size = 64 ∧ new.size = 64) ∧ 0 ≤ at_ ∧ at_ ≤ 64 then new.extract 0 at_.toNat ++ old.extract at_.toNat 64 else ⟨#[]⟩
def tornE (old new : ByteArray) (at_ : Int) : Int := if (old.size = 64 ∧ new.size = 64) ∧ 0 ≤ at_ ∧ at_ ≤ 64 then 0 else 100
theorem torn_ok (old new : ByteArray) (at_ : Int) (H : Heap) : call K f_pair_Torn [.string old, .string new, .int .i64 at_] H = some (.tuple #[.string (tornR old new at_), .int .i64 (tornE old new at_)], H) := by
  refine of_wpf (open_pure rfl fc_pair_Torn rfl (Nat.le_of_ble_eq_true rfl) ?_)
  by_cases h : (old.size = 64 ∧ new.size = 64) ∧ 0 ≤ at_ ∧ at_ ≤ 64
  · rw [tornR, tornE, if_pos h, if_pos h]
    obtain ⟨⟨h1, h2⟩, h3, h4⟩ := h
    obtain ⟨k, rfl⟩ := Int.eq_ofNat_of_zero_le h3
    have k64 : k ≤ 64 := by omega
    have k1 : ¬ ((k : Int) < 0) := by omega
    have k2 : ¬ ((64 : Int) < (k : Int)) := by omega
    have a1 : slsV new none (some (.int .i64 (k : Int))) = some (.string (new.extract 0 k)) := by simp [slsV, bound, h2, k64]
    have a2 : slsV old (some (.int .i64 (k : Int))) none = some (.string (old.extract k 64)) := by simp [slsV, bound, h1, k64]
    have a3 : binV K.P .add tyStr (.string (new.extract 0 k)) (.string (old.extract k 64)) = some (.string (new.extract 0 k ++ old.extract k 64)) := binV_sadd _ _ _ _ (by rw [size_extract, size_extract]; omega)
    simp [h1, h2, k1, k2, a1, a2, a3]
  · rw [tornR, tornE, if_neg h, if_neg h]
    by_cases h1 : old.size = 64
    · by_cases h2 : new.size = 64
      · by_cases h3 : at_ < 0
        · simp [h1, h2, h3]
        · have h4 : (64 : Int) < at_ := by omega
          simp [h1, h2, h3, h4]
      · have h2' : ¬ (new.size : Int) = 64 := by omega
        simp [h1, h2']
    · have h1' : ¬ (old.size : Int) = 64 := by omega
      simp [h1']
theorem rtorn_ok (old new : ByteArray) (at_ : Int) (H : Heap) : call K f_ref1_Torn [.string old, .string new, .int .i64 at_] H = some (.tuple #[.string (tornR old new at_), .int .i64 (tornE old new at_)], H) := by
  refine of_wpf (open_pure rfl fc_ref1_Torn rfl (Nat.le_of_ble_eq_true rfl) ?_)
  by_cases h : (old.size = 64 ∧ new.size = 64) ∧ 0 ≤ at_ ∧ at_ ≤ 64
  · rw [tornR, tornE, if_pos h, if_pos h]
    obtain ⟨⟨h1, h2⟩, h3, h4⟩ := h
    obtain ⟨k, rfl⟩ := Int.eq_ofNat_of_zero_le h3
    have k64 : k ≤ 64 := by omega
    have k1 : ¬ ((k : Int) < 0) := by omega
    have k2 : ¬ ((64 : Int) < (k : Int)) := by omega
    have a1 : slsV new none (some (.int .i64 (k : Int))) = some (.string (new.extract 0 k)) := by simp [slsV, bound, h2, k64]
    have a2 : slsV old (some (.int .i64 (k : Int))) none = some (.string (old.extract k 64)) := by simp [slsV, bound, h1, k64]
    have a3 : binV K.P .add tyStr (.string (new.extract 0 k)) (.string (old.extract k 64)) = some (.string (new.extract 0 k ++ old.extract k 64)) := binV_sadd _ _ _ _ (by rw [size_extract, size_extract]; omega)
    simp [h1, h2, k1, k2, a1, a2, a3]
  · rw [tornR, tornE, if_neg h, if_neg h]
    by_cases h1 : old.size = 64
    · by_cases h2 : new.size = 64
      · by_cases h3 : at_ < 0
        · simp [h1, h2, h3]
        · have h4 : (64 : Int) < at_ := by omega
          simp [h1, h2, h3, h4]
      · have h2' : ¬ (new.size : Int) = 64 := by omega
        simp [h1, h2']
    · have h1' : ¬ (old.size : Int) = 64 := by omega
      simp [h1']
theorem lookC_nil (at_ : Int) : lookC [] at_ = none := rfl
theorem lookC_snoc (c : List Img) (w : Img) (at_ : Int) : lookC (c ++ [w]) at_ = if w.1 = at_ then some w.2 else lookC c at_ := by
  unfold lookC
  rw [List.reverse_append]
  simp only [List.reverse_cons, List.reverse_nil, List.nil_append, List.singleton_append, List.find?_cons]
  by_cases h : w.1 = at_ <;> simp [h]
theorem rlook_ok (s c : Value) (d : Dk) (at_ : Int) (H : Heap) (hs : Strs H s d.1) (hc : Imgs H c d.2) (h0 : 0 ≤ at_ ∧ at_.toNat < d.1.length) : call K f_ref1_read [.agg #[s, c], .int .i64 at_] H = some (.string (lookD d at_), H) := by
  obtain ⟨S, C⟩ := d
  obtain ⟨p, k, rfl⟩ := hs.slice
  obtain ⟨q, m, rfl⟩ := hc.slice
  have hl1 := hs.lim; have hl2 := hc.lim
  refine of_wpf (open_pure rfl fc_ref1_read rfl (Nat.le_of_ble_eq_true rfl) ?_)
  simp only at hl1 hl2 hs hc h0 ⊢
  obtain ⟨G0, hG0⟩ : ∃ G0, G0 = H.roAll.add (rowBlk 2 [.slice p S.length k, .slice q C.length m]) := ⟨_, rfl⟩
  have E : Ext H.roAll G0 := by subst hG0; exact (Ext.refl H.roAll).add _
  have f0 : G0.cell H.next 0 = some (.slice p S.length k) := by subst hG0; simp
  have f1 : G0.cell H.next 1 = some (.slice q C.length m) := by subst hG0; simp
  have hs' := hs.roAll.ext E
  have hc' := hc.roAll.ext E
  have w0 : IntKind.i64.wrap ((C.length : Int) - 1) = (C.length : Int) - 1 := wrap_i64 (by omega) (by omega)
  obtain ⟨a, rfl⟩ := Int.eq_ofNat_of_zero_le h0.1
  have ha : a < S.length := by simpa using h0.2
  simp [← hG0, f1, w0]
  refine wp_nxt (wp_for (fun d e G => ∃ i : Nat, d = i ∧ i ≤ C.length ∧ G = G0 ∧ e 2 = .pointer (some ⟨H.next, 0, none⟩) ∧ e 1 = .int .i64 (a : Int) ∧ e 5 = .int .i64 ((i : Int) - 1) ∧ lookC C a = lookC (C.take i) a) C.length ⟨C.length, by simp⟩ ?_)
  rintro d e G ⟨i, rfl, hi, hG, h2, h1, h5, hlk⟩
  subst G
  rcases Nat.eq_zero_or_pos d with rfl | hpos
  · obtain ⟨b, o, rfl, hb, k0⟩ := hs'.at1 ha
    have hx : S[a]? = some S[a] := List.getElem?_eq_getElem ha
    simp at k0
    rw [List.take_zero, lookC_nil] at hlk
    simp [c_ref1_read_l6, h2, h1, h5, f0, ha, k0, lookD, hlk, hx]
  · obtain ⟨j, rfl⟩ : ∃ j, d = j + 1 := ⟨d - 1, by omega⟩
    have hj : j < C.length := by omega
    obtain ⟨b, o, rfl, hb, k0, k1⟩ := hc'.at2 hj
    rw [List.take_succ_eq_append_getElem hj, lookC_snoc] at hlk
    generalize C[j] = w at *
    obtain ⟨x, s⟩ := w
    simp at k0 k1
    have e1 : ((j + 1 : Nat) : Int) - 1 = (j : Int) := by omega
    rw [e1] at h5
    have w1 : IntKind.i64.wrap ((j : Int) - 1) = (j : Int) - 1 := wrap_i64 (by omega) (by omega)
    by_cases hx : x = (a : Int)
    · subst hx
      simp at hlk
      simp [c_ref1_read_l6, h2, h1, h5, f1, hj, k0, k1, lookD, hlk]
    · simp [hx] at hlk
      simp [c_ref1_read_l6, h2, h1, h5, f1, hj, k0, k1, hx, w1]
      exact ⟨j, by omega, by omega, rfl, hlk⟩
theorem rread_ok (s c : Value) (d : Dk) (at_ : Int) (H : Heap) (hs : Strs H s d.1) (hc : Imgs H c d.2) : call K f_ref1_Read [.agg #[s, c], .int .i64 at_] H = some (.tuple #[.string (rdD d at_), .int .i64 (rdE d at_)], H) := by
  refine of_wpf (open_pure rfl fc_ref1_Read rfl (Nat.le_of_ble_eq_true rfl) ?_)
  have c1 := fun X => rdskMay_ok s c d (H.roAll.add X) (hs.roAll.ext ((Ext.refl _).add X)) (hc.roAll.ext ((Ext.refl _).add X))
  by_cases h : rdOk d at_ = true
  · rw [rdD, rdE, if_pos h, if_pos h]
    simp only [rdOk, Bool.and_eq_true, decide_eq_true_eq] at h
    obtain ⟨⟨h1, h2⟩, h3⟩ := h
    have h4 : d.1.length = 394 := by simp only [dOk, Bool.and_eq_true, decide_eq_true_eq] at h1; omega
    have c2 := fun X => rlook_ok s c d at_ (H.roAll.add X) (hs.roAll.ext ((Ext.refl _).add X)) (hc.roAll.ext ((Ext.refl _).add X)) ⟨h2, by omega⟩
    obtain ⟨p, k, rfl⟩ := hs.slice
    obtain ⟨q, m, rfl⟩ := hc.slice
    have h2' : ¬ at_ < 0 := by omega
    have h3' : ¬ 394 ≤ at_ := by omega
    simp [c1, c2, h1, h2', h3']
  · have h' : rdOk d at_ = false := by simpa using h
    rw [rdD, rdE, if_neg h, if_neg h]
    obtain ⟨p, k, rfl⟩ := hs.slice
    obtain ⟨q, m, rfl⟩ := hc.slice
    by_cases h1 : dOk d = true
    · by_cases h2 : at_ < 0
      · simp [c1, h1, h2]
      · have h3 : 394 ≤ at_ := by simp [rdOk, h1] at h'; omega
        simp [c1, h1, h2, h3]
    · have h1' : dOk d = false := by simpa using h1
      simp [c1, h1']
def sec (x : Int) : ByteArray := strOfNums (List.replicate 64 (IntKind.u8.wrap x))
theorem sec_size (x : Int) : (sec x).size = 64 := by rw [sec, size_strOfNums]; simp
theorem nums_row : ∀ (vs : List Int), numsOfRow (vs.map fun n => .int .u8 n) = some vs
  | [] => rfl
  | v :: vs => by rw [List.map_cons, numsOfRow_cons, nums_row vs]; rfl
theorem sector_ok (x : Int) (H : Heap) : call K f_law2_sector [.int .i64 x] H = some (.string (sec x), H) := by
  refine of_wpf (open_pure rfl fc_law2_sector rfl (Nat.le_of_ble_eq_true rfl) ?_)
  obtain ⟨y, hy⟩ : ∃ y, y = IntKind.u8.wrap x := ⟨_, rfl⟩
  have z1 : (64 : Nat) ≤ 70368744177664 := by omega
  obtain ⟨n, hn⟩ : ∃ n : Nat, n = 64 := ⟨_, rfl⟩
  simp [natOf_int]
  refine wp_nxt (wp_for (fun d e G => ∃ (i : Nat) (B : Blk), d = 64 - i ∧ i ≤ 64 ∧ G.blk H.next = some B ∧ B.ro = false ∧ (∀ j, j < 64 → B.at_ j = some (.int .u8 (if j < i then y else 0))) ∧ e 0 = .int .i64 x ∧ e 3 = .slice (some ⟨H.next, 0, none⟩) n 129 ∧ e 4 = .int .i64 (i : Int)) 64 ⟨0, fillB 1 64 [.int .u8 0], by simp, by simp, by simp, rfl, fun j hj => by simp [hj, Nat.mod_one], by simp, by simp [hn], by simp⟩ ?_)
  rintro d e G ⟨i, B, rfl, hi, hB, hro, hat, h0, h3, h4⟩
  have hcb : ∀ o, G.cell H.next o = B.at_ o := fun o => by simp only [Heap.cell, hB]
  by_cases hlt : i < 64
  · have w1 : (i : Int) < 64 := by omega
    have hln : i < n := by omega
    simp [c_law2_sector_l6, h0, h3, h4, hln, w1, hB, hro, hcb, hat i hlt, ← hy]
    refine ⟨64 - (i + 1), by omega, i + 1, rfl, hlt, fun j hj => ?_, wrap_succ (by omega)⟩
    by_cases hji : j = i
    · subst hji; simp
    · rw [if_neg hji, hat j hj]
      by_cases hlt2 : j < i
      · rw [if_pos hlt2, if_pos (by omega)]
      · rw [if_neg hlt2, if_neg (by omega)]
  · obtain rfl : i = 64 := by omega
    have hrow : G.row H.next 0 n = some (List.replicate n (.int .u8 y)) := row_of n 0 (by simp) fun j hj => by
      rw [Nat.zero_add, hcb, hat j (by omega), if_pos (by omega)]; simp [hj]
    simp [c_law2_sector_l6, h3, h4, hrow, nums_rep]
    rw [sec, hn, hy]
end Go.AM
end TextR6W
section TextR6X
/- Contracts: new disks. -/
namespace Go.AM
open Go.Proofs
set_option linter.unusedVariables false
set_option linter.unusedSimpArgs false
set_option maxRecDepth 100000
attribute [-simp] ByteArray.size_eq_zero_iff
theorem shr32 (t : TypeId) (a : Int) (h : a < 4294967296) (h0 : 0 ≤ a) : binV K.P .shr t (.int .u64 a) (.int .u64 32) = some (.int .u64 0) := by
  rw [show (Value.int IntKind.u64 32) = .int .u64 ((32 : Nat) : Int) by rfl, binV_shr]
  congr 2
  rw [show (2 : Int) ^ min 32 IntKind.u64.bits = 4294967296 by decide, Int.fdiv_eq_ediv_of_nonneg _ (by omega)]; omega
theorem mul64_ok (H : Heap) : call K f_math_bits_Mul64 [.int .u64 1, .int .u64 394] H = some (.tuple #[.int .u64 0, .int .u64 394], H) := by
  refine of_wpf (open_pure rfl fc_math_bits_Mul64 rfl (Nat.le_of_ble_eq_true rfl) ?_)
  have a1 : bits .and .u64 1 4294967295 = 1 := by decide
  have a2 : bits .and .u64 394 4294967295 = 394 := by decide
  have a3 : bits .and .u64 0 4294967295 = 0 := by decide
  have s1 := fun t => shr32 t 1 (by omega) (by omega)
  have s2 := fun t => shr32 t 394 (by omega) (by omega)
  have s3 := fun t => shr32 t 0 (by omega) (by omega)
  have m1 : IntKind.u64.wrap 394 = 394 := by decide
  have m2 : IntKind.u64.wrap 0 = 0 := by decide
  simp [a1, a2, a3, s1, s2, s3, m1, m2]
theorem mul_ok (H : Heap) : call K f_math_bits_Mul [.int .u64 1, .int .u64 394] H = some (.tuple #[.int .u64 0, .int .u64 394], H) := by
  refine of_wpf (open_pure rfl fc_math_bits_Mul rfl (Nat.le_of_ble_eq_true rfl) ?_)
  simp [mul64_ok]
theorem one_rep (q : Nat) (v : Value) (h : v.oneCell' = true) : (List.replicate q v).all Value.oneCell' = true := by
  rw [List.all_eq_true]; intro a ha; rw [(List.mem_replicate.1 ha).2]; exact h
theorem store_rep {H : Heap} {b o q : Nat} {B : Blk} {v : Value} (hB : H.blk b = some B) (hro : B.ro = false) (hv : v.oneCell' = true) (hat : ∀ j, j < q → (B.at_ (o + j)).isSome = true) (hq : q ≠ 0) : H.store b o (List.replicate q v) = some (H.set b (some (B.puts o (List.replicate q v)))) := by
  obtain ⟨k, rfl⟩ : ∃ k, q = k + 1 := ⟨q - 1, by omega⟩
  have hr : (H.row b o (List.replicate (k + 1) v).length).isSome = true := by
    rw [row_of (vs := (List.range (k + 1)).map fun j => (B.at_ (o + j)).getD undef) _ o (by simp) fun j hj => ?_]
    · rfl
    · simp only [List.length_replicate] at hj
      rw [show H.cell b (o + j) = B.at_ (o + j) by simp only [Heap.cell, hB]]
      obtain ⟨x, hx⟩ := Option.isSome_iff_exists.1 (hat j hj)
      simp [hj, hx]
  unfold Heap.store
  rw [List.replicate_succ]
  simp only
  rw [← List.replicate_succ, hB]
  simp only
  rw [if_pos ⟨hro, hr, one_rep _ _ hv⟩]
theorem repeatS_ok (m : Nat) (hm : m = 394) (b : Nat) (s : ByteArray) (H : Heap) (hb : b < H.next) (hc : H.cell b 0 = some (.string s)) : wpf (call K f_slices_Repeat_string_string [.slice (some ⟨b, 0, none⟩) 1 3, .int .i64 394] H) fun r H' => Ext H H' ∧ Strs H' r (List.replicate m s) := by
  refine open_plain rfl fc_slices_Repeat_string_string rfl (Nat.le_of_ble_eq_true rfl) ?_
  have m1 : IntKind.u64.wrap 394 = 394 := by decide
  have m2 : IntKind.u64.wrap 1 = 1 := by decide
  have m3 : IntKind.i64.wrap 394 = 394 := by decide
  have nb : ¬ b = H.next := by omega
  have e1 : Nat.min 1 394 = 1 := rfl
  have hcell : (H.add (fillB 1 394 [.string ⟨#[]⟩])).cell b 0 = some (.string s) := by simp [nb, hc]
  simp [m1, m2, m3, mul_ok, natOf_int, step_copy, strLen, e1, nb, hc]
  refine wp_nxt (wp_for (fun d e G => ∃ (n : Nat) (B : Blk), d = m - n ∧ 1 ≤ n ∧ n ≤ m ∧ G.next = H.next + 1 ∧ (∀ k, k < H.next → G.blk k = H.blk k) ∧ G.blk H.next = some B ∧ B.ro = false ∧ B.esz = 1 ∧ (∀ j, j < m → B.at_ j = some (.string (if j < n then s else ⟨#[]⟩))) ∧ e 7 = .slice (some ⟨H.next, 0, none⟩) m (2 * m + 1) ∧ e 8 = .int .i64 (n : Int)) (m - 1) ⟨1, (fillB 1 394 [.string ⟨#[]⟩]).put 0 (.string s), by omega, by omega, by omega, by simp, fun k hk => by
      have hk' : ¬ k = H.next := by omega
      simp [hk'], by simp, rfl, rfl, fun j hj => ?_, by simp [hm], by simp⟩ ?_)
  · have : j < 394 := by omega
    by_cases h0 : j = 0 <;> simp [h0, this, Nat.mod_one]
  · rintro d e G ⟨n, B, rfl, h1, hn, hnx, hlow, hB, hro, hes, hat, h7, h8⟩
    have hcb : ∀ o, G.cell H.next o = B.at_ o := fun o => by simp only [Heap.cell, hB]
    by_cases hlt : n < m
    · obtain ⟨q, hq⟩ : ∃ q, q = Nat.min n (m - n) := ⟨_, rfl⟩
      have hqq : q = min n (m - n) := hq
      have q1 : 1 ≤ q := by omega
      have q2 : q ≤ n := by omega
      have q3 : n + q ≤ m := by omega
      have hes2 : G.eszIs H.next 1 = true := by simp [Heap.eszIs, hB, hes]
      have s1 : slvV G 1 (.slice (some ⟨H.next, 0, none⟩) m (2 * m + 1)) (some (.int .i64 (n : Int))) none none = some (.slice (some ⟨H.next, n, none⟩) (m - n) (2 * (m - n) + 1)) := by
        simp only [slvV, bound, natOf_cast]
        rw [show (2 * m + 1) / 2 = m by omega, if_pos ⟨hn, Nat.le_refl _, Nat.le_refl _, fun h => by simp at h⟩, if_pos (by rw [hes2]; simp)]
        simp
        try omega
      have s2 : slvV G 1 (.slice (some ⟨H.next, 0, none⟩) m (2 * m + 1)) none (some (.int .i64 (n : Int))) none = some (.slice (some ⟨H.next, 0, none⟩) n (2 * m + 1)) := by
        simp only [slvV, bound, natOf_cast]
        rw [show (2 * m + 1) / 2 = m by omega, if_pos ⟨Nat.zero_le _, hn, Nat.le_refl _, fun h => by simp at h⟩, if_pos (by simp)]
        simp
        try omega
      have hr : G.row H.next 0 q = some (List.replicate q (.string s)) := row_of q 0 (by simp) fun j hj => by
        rw [Nat.zero_add, hcb, hat j (by omega), if_pos (by omega)]; simp [hj]
      have hst := store_rep (H := G) (o := n) (q := q) (v := .string s) hB hro rfl (fun j hj => by rw [hat _ (by omega)]; rfl) (by omega)
      have w1 : IntKind.i64.wrap ((n : Int) + (q : Int)) = ((n + q : Nat) : Int) := by rw [wrap_i64 (by omega) (by omega)]; omega
      have hcp : ∀ e : Env, e 41 = .slice (some ⟨H.next, n, none⟩) (m - n) (2 * (m - n) + 1) → e 44 = .slice (some ⟨H.next, 0, none⟩) n (2 * m + 1) → step K.P (call K) (.copy 1 (.t 41) (.t 44)) e G = some (.int .i64 (q : Int), G.set H.next (some (B.puts n (List.replicate q (.string s))))) := fun e h41 h44 => by
        rw [step_copy]
        simp only [ev_t, h41, h44, strLen]
        rw [← hq, elems_at, Nat.mul_one, hr]
        simp only
        rw [hst]
      simp [c_slices_Repeat_string_string_l10, h7, h8, hlt, s1, s2, hcp, w1]
      refine ⟨m - (n + q), by omega, n + q, rfl, by omega, q3, hnx, fun k hk => by rw [if_neg (by omega)]; exact hlow k hk, by rw [(puts_esz _ _ _).2]; exact hro, by rw [(puts_esz _ _ _).1]; exact hes, fun j hj => ?_, by omega⟩
      by_cases hj1 : j < n
      · rw [puts_out (B := B) _ _ _ _ (.inl hj1), hat j hj, if_pos hj1, if_pos (by omega)]
      · by_cases hj2 : j < n + q
        · have := puts_in (B := B) (List.replicate q (.string s)) n B (j - n) (by simp; omega)
          rw [show n + (j - n) = j by omega] at this
          rw [this, if_pos hj2, List.getElem?_replicate, if_pos (by omega)]
        · rw [puts_out (B := B) _ _ _ _ (.inr (by simp; omega)), hat j hj, if_neg hj1, if_neg hj2]
    · obtain rfl : n = m := by omega
      simp [c_slices_Repeat_string_string_l10, h7, h8]
      refine ⟨⟨by omega, hlow⟩, ?_⟩
      refine ⟨by simp; omega, some ⟨H.next, 0, none⟩, 2 * n + 1, by simp, .inr ⟨H.next, 0, rfl, by omega, by simp; omega, fun i hi j hj => ?_⟩⟩
      simp at hi
      obtain rfl : j = 0 := by omega
      simp
      rw [hcb, hat i (by omega), if_pos (by omega)]
def nSec : Nat := 394
theorem nSec_eq : nSec = 394 := rfl
def newD : Dk := (List.replicate nSec (zer 64), [])
theorem new_ok (H : Heap) : wpf (call K f_disk_New [] H) fun r H' => Ext H H' ∧ DkR H' r newD := by
  refine open_plain rfl fc_disk_New rfl (Nat.le_of_ble_eq_true rfl) ?_
  have h2 : ∀ H, call K f_strings_Repeat [.string ⟨#[0]⟩, .int .i64 64] H = some (.string (zer 64), H) := fun H => by
    rw [repeat_ok _ _ _ ⟨by omega, by omega, by decide⟩]
    rw [show (64 : Int).toNat = 64 by rfl, repeat_zero]
  obtain ⟨G0, hG0⟩ : ∃ G0, G0 = (H.add (rowBlk 2 [.slice none 0 0, .slice none 0 0])).add (rowBlk 1 [.string (zer 64)]) := ⟨_, rfl⟩
  have E0 : Ext H G0 := by subst hG0; exact ((Ext.refl H).add _).add _
  have n0 : G0.next = H.next + 2 := by subst hG0; simp
  obtain ⟨v1, G1, c1, E1, r1⟩ := repeatS_ok nSec rfl (H.next + 1) (zer 64) G0 (by omega) (by subst hG0; simp)
  have b1 : G1.blk H.next = some (rowBlk 2 [.slice none 0 0, .slice none 0 0]) := by rw [E1.blk _ (by omega)]; subst hG0; simp <;> omega
  have q2 : G1.cell H.next = (rowBlk 2 [.slice none 0 0, .slice none 0 0]).at_ := by funext o; simp only [Heap.cell, b1]
  obtain ⟨hl, p, k, hv, hp⟩ := id r1
  have hv' : v1 = .slice p nSec k := by simpa using hv
  subst hv'
  simp [h2, ← hG0, c1, b1, q2]
  refine ⟨(E0.trans E1).set (Nat.le_refl _) _, _, _, rfl, ?_, Rows.nil⟩
  refine ⟨by rw [newD]; exact hl, p, k, by simp [newD], hp.imp (fun h => by simp [nSec] at h) ?_⟩
  rintro ⟨b, o, rfl, hb, hk, hc⟩
  have hbn : b ≠ H.next := fun hbn => by
    subst hbn
    have := hc 0 (by rw [List.length_replicate]; decide) 0 (by omega)
    rw [q2] at this
    simp at this
    match o, this with
    | 0, h => simp at h
    | 1, h => simp at h
    | o + 2, h => simp at h
  exact ⟨b, o, rfl, by simpa using hb, hk, fun i hi j hj => by rw [cell_set, if_neg hbn]; exact hc i hi j hj⟩
theorem rnew_ok (H : Heap) : wpf (call K f_ref1_NewDisk [] H) fun r H' => Ext H H' ∧ DkR H' r newD := by
  refine open_plain rfl fc_ref1_NewDisk rfl (Nat.le_of_ble_eq_true rfl) ?_
  have hz := fun H => zeros_ok 64 H (by omega)
  simp
  refine wp_nxt (wp_for (fun d e G => ∃ (i : Nat) (v : Value) (B0 B1 : Blk), d = 394 - i ∧ i ≤ 394 ∧ Ext H G ∧ G.blk H.next = some B0 ∧ B0.ro = false ∧ B0.at_ 0 = some (.slice none 0 0) ∧ B0.at_ 1 = some (.slice none 0 0) ∧ G.blk (H.next + 1) = some B1 ∧ B1.ro = false ∧ B1.at_ 0 = some v ∧ B1.at_ 1 = some (.slice none 0 0) ∧ Own encS 1 (H.next + 2) G v (List.replicate i (zer 64)) ∧ H.next + 2 ≤ G.next ∧ e 0 = .pointer (some ⟨H.next, 0, none⟩) ∧ e 1 = .pointer (some ⟨H.next + 1, 0, none⟩) ∧ e 2 = .int .i64 (i : Int)) 394 ⟨0, .slice none 0 0, rowBlk 2 [.slice none 0 0, .slice none 0 0], rowBlk 2 [.slice none 0 0, .slice none 0 0], by omega, by omega, ((Ext.refl H).add _).add _, by simp, rfl, rfl, rfl, by simp, rfl, rfl, rfl, Own.nil, by simp, by simp, by simp, by simp⟩ ?_)
  rintro d e G ⟨i, v, B0, B1, rfl, hi, hE, hB0, hr0, a0, a1, hB1, hr1, d0, d1, ho, hn, h0, h1, h2⟩
  have hc0 : ∀ o, G.cell H.next o = B0.at_ o := fun o => by simp only [Heap.cell, hB0]
  have hc1 : ∀ o, G.cell (H.next + 1) o = B1.at_ o := fun o => by simp only [Heap.cell, hB1]
  by_cases hlt : i < 394
  · have w1 : (i : Int) < 394 := by omega
    have hA : ∀ X, appV (G.add X) 1 16 1 v [.string (zer 64)] = some (.slice (some ⟨G.next + 1, 0, none⟩) (i + 1) (2 * (i + 1)), (killB v (G.add X)).add (rowBlk 1 ((List.replicate (i + 1) (zer 64)).flatMap encS))) := fun X => by
      rw [(ho.ext ((Ext.refl G).add X)).app encS_len _ (by omega) rfl (by simp; omega) (by simp; omega), List.replicate_succ', List.flatMap_append]
      simp
    obtain ⟨p, c, hv0, _⟩ := ho.slc
    have hv : v = .slice p i c := by simpa using hv0
    have nv0 : NotIn v H.next := ho.notIn (by omega)
    have nv1 : NotIn v (H.next + 1) := ho.notIn (by omega)
    have k1 : ∀ X, (killB v (G.add X)).blk (H.next + 1) = some B1 := fun X => by rw [blk_killB nv1, blk_add, if_neg (by omega)]; exact hB1
    have k0 : ∀ X, (killB v (G.add X)).blk H.next = some B0 := fun X => by rw [blk_killB nv0, blk_add, if_neg (by omega)]; exact hB0
    have kc : ∀ X o, (killB v (G.add X)).cell (H.next + 1) o = B1.at_ o := fun X o => by simp only [Heap.cell, k1]
    have z3 : ¬ H.next + 1 = G.next := by omega
    have z4 : ¬ H.next + 1 = G.next + 1 := by omega
    have z5 : ¬ H.next = G.next := by omega
    subst hv
    simp at hz
    simp [c_ref1_NewDisk_l6, h0, h1, h2, w1, hc1, d0, hz, run_regd_tr, finD_some, Chk, wanted, hA, k1, kc, hr1, z3, z4, z5]
    have z6 : ¬ H.next = G.next + 1 := by omega
    refine ⟨394 - (i + 1), by omega, i + 1, rfl, by omega, ?_, _, B0, by rw [if_neg z6]; exact k0 _, hr0, a0, a1, rfl, d1, ?_, by omega, wrap_succ (by omega)⟩
    · exact ((ho.ext_kill (by omega) (hE.add _)).add _).set (by omega) _
    · have hz := Own.new' (enc := encS) (sz := 1) (n0 := H.next + 2) (b := G.next + 1) (H := killB (.slice p i c) (G.add (rowBlk 1 [.string (zer 64)]))) (xs := List.replicate (i + 1) (zer 64)) (by simp) (by omega) (by simp; omega) rfl
      simp only [List.length_replicate] at hz
      exact hz.set (by omega) _
  · obtain rfl : i = 394 := by omega
    obtain ⟨p, c, hv0, _⟩ := ho.slc
    obtain ⟨m, hm⟩ : ∃ m, m = nSec := ⟨_, rfl⟩
    rw [← nSec_eq, ← hm] at ho
    have hv : v = .slice p m c := by rw [hm, nSec_eq]; simpa using hv0
    subst hv
    simp [c_ref1_NewDisk_l6, h0, h1, h2, hc1, hc0, d0, d1, hB0, hr0, a0, a1]
    refine ⟨hE.set (Nat.le_refl _) _, _, _, rfl, ?_, Rows.nil⟩
    rw [newD, ← hm]
    exact (ho.set (by omega) _).rows encS_len
end Go.AM
end TextR6X
section TextR6Y
/- Contracts: steps of a disk. -/
namespace Go.AM
open Go.Proofs
set_option linter.unusedVariables false
set_option linter.unusedSimpArgs false
set_option maxRecDepth 100000
attribute [-simp] ByteArray.size_eq_zero_iff
abbrev Stp := Bool × Int × ByteArray
def applyW (S : List ByteArray) (C : List Img) : List ByteArray := C.foldl (fun S w => S.set w.1.toNat w.2) S
theorem applyW_len (C : List Img) : ∀ S, (applyW S C).length = S.length := by
  unfold applyW
  induction C with
  | nil => exact fun S => rfl
  | cons w C ih => intro S; rw [List.foldl_cons, ih, List.length_set]
theorem applyW_take (S : List ByteArray) (C : List Img) {i : Nat} (h : i < C.length) : applyW S (C.take (i + 1)) = (applyW S (C.take i)).set C[i].1.toNat C[i].2 := by
  unfold applyW; rw [List.take_succ_eq_append_getElem h, List.foldl_append]; rfl
def doO (d : Dk) (s : Stp) : Option Dk :=
  if dOk d = true then
    if s.1 = false then (if wOk s.2 = true ∧ d.2.length ≠ 512 then some (d.1, d.2 ++ [s.2]) else none)
    else if s.2.1 = 0 ∧ s.2.2.size = 0 then some (applyW d.1 d.2, []) else none
  else none
def doR (d : Dk) (s : Stp) : Dk := (doO d s).getD ([], [])
def doE (d : Dk) (s : Stp) : Int := if (doO d s).isSome then 0 else 200
theorem dOk_len {d : Dk} (h : dOk d = true) : d.1.length = 394 ∧ d.2.length ≤ 512 ∧ (∀ s ∈ d.1, s.size = 64) ∧ ∀ w ∈ d.2, wOk w = true := by
  simp only [dOk, Bool.and_eq_true, decide_eq_true_eq, List.all_eq_true] at h
  exact ⟨h.1.1.1, h.1.1.2, h.1.2, h.2⟩
theorem wOk_of {w : Img} (h : wOk w = true) : ∃ k : Nat, w.1 = k ∧ k < 394 ∧ w.2.size = 64 := by
  simp only [wOk, decide_eq_true_eq] at h
  obtain ⟨k, hk⟩ := Int.eq_ofNat_of_zero_le h.1.1
  exact ⟨k, hk, by omega, h.2⟩
theorem take_len_le {α : Type} {C : List α} (i : Nat) (hi : i ≤ C.length) : C.take i = C → True := fun _ => trivial
theorem do_ok (v : Value) (d : Dk) (fl : Bool) (at_ : Int) (tx : ByteArray) (H : Heap) (h : DkR H v d) :
    wpf (call K f_disk_Do [v, .agg #[.bool fl, .int .i64 at_, .string tx]] H) fun r H' => Ext H H' ∧ ∃ v', r = .tuple #[v', .int .i64 (doE d (fl, at_, tx))] ∧ OwnD H.next H' v' (doR d (fl, at_, tx)) := by
  obtain ⟨s, c, rfl, hs, hc⟩ := h
  obtain ⟨S, C⟩ := d
  refine open_plain rfl fc_disk_Do rfl (Nat.le_of_ble_eq_true rfl) ?_
  simp only at hs hc
  obtain ⟨ps, ks, rfl⟩ := hs.slice
  obtain ⟨pc, kc, rfl⟩ := hc.slice
  obtain ⟨G0, hG0⟩ : ∃ G0, G0 = ((H.add (rowBlk 2 [.slice ps S.length ks, .slice pc C.length kc])).add (rowBlk 3 [.bool fl, .int .i64 at_, .string tx])).add (rowBlk 2 [.slice none 0 0, .slice none 0 0]) := ⟨_, rfl⟩
  have E0 : Ext H G0 := by subst hG0; exact (((Ext.refl H).add _).add _).add _
  have n0 : G0.next = H.next + 3 := by subst hG0; simp
  have x1 : ¬ H.next = H.next + 1 := by omega
  have x2 : ¬ H.next = H.next + 1 + 1 := by omega
  have f0 : G0.blk H.next = some (rowBlk 2 [.slice ps S.length ks, .slice pc C.length kc]) := by subst hG0; simp [x1, x2]
  have f1 : G0.blk (H.next + 1) = some (rowBlk 3 [.bool fl, .int .i64 at_, .string tx]) := by subst hG0; simp
  have f2 : G0.blk (H.next + 1 + 1) = some (rowBlk 2 [.slice none 0 0, .slice none 0 0]) := by subst hG0; simp
  have blkE : ∀ {G : Heap}, Ext G0 G → (G.blk H.next = some (rowBlk 2 [.slice ps S.length ks, .slice pc C.length kc]) ∧ G.blk (H.next + 1) = some (rowBlk 3 [.bool fl, .int .i64 at_, .string tx]) ∧ G.blk (H.next + 1 + 1) = some (rowBlk 2 [.slice none 0 0, .slice none 0 0])) := fun hE =>
    ⟨by rw [hE.blk _ (by omega)]; exact f0, by rw [hE.blk _ (by omega)]; exact f1, by rw [hE.blk _ (by omega)]; exact f2⟩
  have c0 : ∀ o, G0.cell H.next o = (rowBlk 2 [.slice ps S.length ks, .slice pc C.length kc]).at_ o := fun o => by simp only [Heap.cell, f0]
  have c1 : ∀ o, G0.cell (H.next + 1) o = (rowBlk 3 [.bool fl, .int .i64 at_, .string tx]).at_ o := fun o => by simp only [Heap.cell, f1]
  have c2 : ∀ o, G0.cell (H.next + 1 + 1) o = (rowBlk 2 [.slice none 0 0, .slice none 0 0]).at_ o := fun o => by simp only [Heap.cell, f2]
  have hmay := dskMay_ok _ _ (S, C) G0 (hs.ext E0) (hc.ext E0)
  have bad : ∀ B, Ext H (G0.set (H.next + 1 + 1) B) := fun B => E0.set (by omega) _
  by_cases hd : dOk (S, C) = true
  · obtain ⟨hl1, hl2, hsz, hw⟩ := dOk_len hd
    simp only at hl1 hl2 hsz hw
    cases fl with
    | false =>
      by_cases hw2 : wOk (at_, tx) = true
      · by_cases h512 : C.length = 512
        · have h512' : (C.length : Int) = 512 := by omega
          have e1 : doO (S, C) (false, at_, tx) = none := by simp [doO, hd, hw2, h512]
          simp [← hG0, x1, x2, hmay, hd, c0, c1, c2, f2, hw2, h512', doE, doR, e1]
          exact ⟨bad _, OwnD.nil⟩
        · have h512' : ¬ (C.length : Int) = 512 := by omega
          have e1 : doO (S, C) (false, at_, tx) = some (S, C ++ [(at_, tx)]) := by simp [doO, hd, hw2, h512]
          have E0' := (Ext.refl G0).add (rowBlk 2 [.int .i64 at_, .string tx])
          obtain ⟨r1, G1, k1, E1, o1⟩ := cloneS_ok _ S (G0.add (rowBlk 2 [.int .i64 at_, .string tx])) ((hs.ext E0).ext E0') (by omega)
          obtain ⟨r2, G2, k2, E2, o2⟩ := cloneW_ok _ C G1 (((hc.ext E0).ext E0').ext E1) (by omega)
          obtain ⟨X, nX, EX, k3⟩ := o2.app encI_len (bytes := 24) (k := 1) [.int .i64 at_, .string tx] (by omega) rfl (by omega) (by omega)
          have EX1 := EX G1 (Nat.le_refl _) E2
          obtain ⟨b0, b1, b2⟩ := blkE (E0'.trans E1)
          obtain ⟨b0', b1', b2'⟩ := blkE ((E0'.trans E1).trans E2)
          obtain ⟨q0, q1, q2⟩ := blkE ((E0'.trans E1).trans EX1)
          have d0 : ∀ o, G1.cell H.next o = (rowBlk 2 [.slice ps S.length ks, .slice pc C.length kc]).at_ o := fun o => by simp only [Heap.cell, b0]
          have d1 : ∀ o, G1.cell (H.next + 1) o = (rowBlk 3 [.bool false, .int .i64 at_, .string tx]).at_ o := fun o => by simp only [Heap.cell, b1]
          have d1' : ∀ o, G2.cell (H.next + 1) o = (rowBlk 3 [.bool false, .int .i64 at_, .string tx]).at_ o := fun o => by simp only [Heap.cell, b1']
          have d2 : ∀ o, X.cell (H.next + 1 + 1) o = (rowBlk 2 [.slice none 0 0, .slice none 0 0]).at_ o := fun o => by simp only [Heap.cell, q2]
          have e2 := E1.next
          have e3 := E2.next
          simp [n0] at e2
          have bT : G2.blk (H.next + 3) = some (rowBlk 2 [.int .i64 at_, .string tx]) := by rw [E2.blk _ (by omega), E1.blk _ (by simp; omega), blk_add, if_pos n0.symm]
          have d3 : ∀ o, G2.cell (H.next + 3) o = (rowBlk 2 [.int .i64 at_, .string tx]).at_ o := fun o => by simp only [Heap.cell, bT]
          obtain ⟨p1, m1, hr1⟩ := (o1.rows encS_len).slice
          obtain ⟨p2, m2, hr2⟩ := (o2.rows encI_len).slice
          have z1 : ¬ H.next + 1 + 1 = G2.next := by omega
          have z2 : ¬ H.next + 1 = G2.next := by omega
          have z3 : ¬ H.next + 1 + 1 = G0.next := by omega
          have z4 : ¬ H.next + 1 = G0.next := by omega
          have z5 : ¬ H.next = G0.next := by omega
          have hfar : ∀ b, ¬ NotIn r1 b → b < G1.next := fun b hb => Nat.lt_of_not_le fun hh => hb (o1.below.notIn hh)
          have hO1 : OwnZ encS 1 H.next (X.add (rowBlk 2 (C.flatMap encI ++ [.int .i64 at_, .string tx]))) r1 S := ((o1.low (by simp; omega)).ext EX1).ext ((Ext.refl X).add _)
          have hr1' : r1 = .slice p1 S.length m1 := hr1
          subst hr1
          subst hr2
          simp [← hG0, x1, x2, hmay, hd, c0, c1, c2, f2, hw2, h512', doE, doR, e1, run_regd_tr, finD_some, Chk, wanted, k1, k2, k3, d0, d1, d1', d2, d3, q2, nX, z1, z2, z3, z4, z5, x1, x2, n0]
          refine ⟨((E0.trans (E0'.trans (E1.trans EX1))).add _).set (by omega) _, _, _, rfl, ?_, ?_, ?_⟩
          · exact hO1.frame (by simp) fun b hb1 hb2 hb3 => blk_set_ne fun e => hb3 (by subst e; exact o1.notIn (by simp; omega))
          · refine .inl ?_
            have hz := Own.new' (enc := encI) (sz := 2) (n0 := G2.next) (b := G2.next) (H := X) (xs := C ++ [(at_, tx)]) nX.symm (Nat.le_refl _) (by simp; omega) rfl
            have := hz.set (k := H.next + 1 + 1) (by omega) (some (((rowBlk 2 [.slice none 0 0, .slice none 0 0]).put 0 (.slice p1 S.length m1)).put 1 (.slice (some ⟨G2.next, 0, none⟩) (C.length + 1) (2 * (C.length + 1)))))
            simpa using this.low (m := H.next) (by omega)
          · intro b hb a n cc e
            cases e
            have := hfar b hb
            simp only; omega
      · have e1 : doO (S, C) (false, at_, tx) = none := by simp [doO, hd, hw2]
        have hw2' : wOk (at_, tx) = false := by simpa using hw2
        simp [← hG0, x1, x2, hmay, hd, c0, c1, c2, f2, hw2', doE, doR, e1]
        exact ⟨bad _, OwnD.nil⟩
    | true =>
      by_cases hz : at_ = 0 ∧ tx.size = 0
      · obtain ⟨rfl, hz⟩ := hz
        have e1 : doO (S, C) (true, 0, tx) = some (applyW S C, []) := by simp [doO, hd, hz]
        obtain ⟨r1, G1, k1, E1, o1⟩ := cloneS_ok _ S G0 (hs.ext E0) (by omega)
        obtain ⟨b0, b1, b2⟩ := blkE E1
        have d0 : ∀ o, G1.cell H.next o = (rowBlk 2 [.slice ps S.length ks, .slice pc C.length kc]).at_ o := fun o => by simp only [Heap.cell, b0]
        have e2 := E1.next
        have hOwn := o1.own (fun h => by rw [h] at hl1; simp at hl1)
        obtain ⟨p1, m1, hr1⟩ := (o1.rows encS_len).slice
        subst hr1
        have z1 : ¬ H.next = G1.next := by omega
        simp [← hG0, x1, x2, hmay, hd, c0, c1, c2, f2, hz, doE, doR, e1, k1, d0, z1]
        have hbel := hOwn.below
        refine wp_nxt (wp_for (fun k e G => ∃ (i : Nat) (B6 : Blk), k = C.length - i ∧ i ≤ C.length ∧ Ext G0 G ∧ G1.next < G.next ∧ G.blk G1.next = some B6 ∧ B6.ro = false ∧ B6.at_ 0 = some (.slice p1 S.length m1) ∧ B6.at_ 1 = some (.slice none 0 0) ∧ Own encS 1 G0.next G (.slice p1 S.length m1) (applyW S (C.take i)) ∧ e 48 = .slice pc C.length kc ∧ e 49 = .int .i64 (C.length : Int) ∧ e 50 = .int .i64 (i : Int) ∧ e 6 = .pointer (some ⟨G1.next, 0, none⟩) ∧ e 4 = .pointer (some ⟨H.next + 1 + 1, 0, none⟩)) C.length ⟨0, ((rowBlk 2 [.slice none 0 0, .slice none 0 0]).put 0 (.slice p1 S.length m1)).put 1 (.slice none 0 0), by omega, by omega, (E1.add _).set (by omega) _, by simp, by simp, rfl, by simp, by simp, ?_, by simp, by simp, by simp, by simp, by simp⟩ ?_)
        · rw [List.take_zero]
          exact (hOwn.ext ((Ext.refl G1).add _)).setB (hbel.notIn (Nat.le_refl _)) _
        · rintro k e G ⟨i, B6, rfl, hi, hE, hlt6, hB6, hro6, a60, a61, hO, h48, h49, h50, h6, h4⟩
          have cB : ∀ o, G.cell G1.next o = B6.at_ o := fun o => by simp only [Heap.cell, hB6]
          obtain ⟨g0, g1, g2⟩ := blkE hE
          have cg2 : ∀ o, G.cell (H.next + 1 + 1) o = (rowBlk 2 [.slice none 0 0, .slice none 0 0]).at_ o := fun o => by simp only [Heap.cell, g2]
          by_cases hlt : i < C.length
          · obtain ⟨bC, oC, hpC, hbC, kk0, kk1⟩ := hc.at2 hlt
            have hwi := wOk_of (hw C[i] (List.getElem_mem _))
            have htk := applyW_take S C hlt
            generalize C[i] = w at *
            obtain ⟨wa, wt⟩ := w
            obtain ⟨kw, rfl, hkw, _⟩ := hwi
            subst hpC
            simp at kk0 kk1 htk
            have hEH := E0.trans hE
            rw [← hEH.cell (o := _) hbC] at kk0 kk1
            have zb : ¬ bC = G.next := by have := hEH.next; omega
            have z6 : ¬ G1.next = G.next := by omega
            have hO2 := (hO.ext ((Ext.refl G).add (rowBlk 2 [.int .i64 0, .string ⟨#[]⟩]))).setB (k := G.next) (hO.below.notIn (Nat.le_refl _)) (some (((rowBlk 2 [.int .i64 0, .string ⟨#[]⟩]).put 0 (.int .i64 (kw : Int))).put 1 (.string wt)))
            have hla : (applyW S (C.take i)).length = S.length := applyW_len _ _
            obtain ⟨b, B, hv, hbn, hbn2, hB, hro, hat, hup⟩ := hO2.blkOf encS_len (fun h => by rw [h] at hla; simp at hla; omega)
            rw [hla] at hv
            have hv1 : p1 = some ⟨b, 0, none⟩ := by cases hv; rfl
            subst hv1
            have hat0 := hat kw (by omega) 0 (by omega)
            have hnew := hup kw 0 (by omega) (by omega) wt (.string wt) (fun r hr => by
              obtain rfl : r = 0 := by omega
              rfl)
            rw [← htk] at hnew
            have zb6 : ¬ G1.next = b := fun e => by
              have hh := hbel
              have := hh _ _ _ rfl
              simp only at this; omega
            have hkS : kw < S.length := by omega
            have hbG : ¬ b = G.next := fun e => by
              have := hO.below _ _ _ rfl
              simp only at this; omega
            rw [blk_set_ne hbG, blk_add, if_neg hbG] at hB
            have cb : ∀ o, G.cell b o = B.at_ o := fun o => by simp only [Heap.cell, hB]
            simp at hat0
            simp [c_disk_Do_l15, h48, h49, h50, h6, h4, hlt, kk0, kk1, zb, z6, cB, a60, a61, hkS, hB, hro, hat0, natOf_int, hbG, cb]
            refine ⟨C.length - (i + 1), by omega, i + 1, rfl, hlt, (((hE.add _).set (by have := hE.next; omega) _).set hbn _), by omega, B6, by rw [if_neg zb6]; exact hB6, hro6, a60, a61, ?_, wrap_succ (by omega)⟩
            rw [Nat.mul_one, Nat.add_zero] at hnew
            exact hnew
          · obtain rfl : i = C.length := by omega
            rw [List.take_length] at hO
            simp [c_disk_Do_l15, h49, h50, h6, h4, cB, a60, a61, cg2, g2]
            exact ⟨(E0.trans hE).set (by omega) _, _, _, rfl, .inl ((hO.set (by omega) _).low (by omega)), OwnZ.nil, fun b _ => notIn_nil⟩
      · have e1 : doO (S, C) (true, at_, tx) = none := by simp [doO, hd, hz]
        have hz2 : ¬ at_ = 0 ∨ ¬ tx.size = 0 := by omega
        simp [← hG0, x1, x2, hmay, hd, c0, c1, c2, f2, hz2, doE, doR, e1]
        exact ⟨E0.set (by omega) _, OwnD.nil⟩
  · have hd' : dOk (S, C) = false := by simpa using hd
    have e1 : doO (S, C) (fl, at_, tx) = none := by simp [doO, hd]
    simp [← hG0, x1, x2, hmay, hd', c0, c1, c2, f2, doE, doR, e1]
    exact ⟨bad _, OwnD.nil⟩
end Go.AM
end TextR6Y
section TextR6Z
/- Contracts: the document's steps of a disk. -/
namespace Go.AM
open Go.Proofs
set_option linter.unusedVariables false
set_option linter.unusedSimpArgs false
set_option maxRecDepth 100000
attribute [-simp] ByteArray.size_eq_zero_iff
theorem OwnZ.app2 {α : Type} {enc : α → List Value} {sz n0 : Nat} {H : Heap} {v : Value} {xs : List α} (h : OwnZ enc sz n0 H v xs) (he : ∀ x, (enc x).length = sz) {bytes k : Nat} (ys : List Value) (hk : k ≠ 0) (hy : ys.all Value.oneCell' = true) (h1 : (xs.length + k) * bytes ≤ 2 ^ 47) (h2 : xs.length + k ≤ 2 ^ 47) :
    ∃ X : Heap, X.next = H.next ∧ (∀ b, NotIn v b → X.blk b = H.blk b) ∧ appV H sz bytes k v ys = some (.slice (some ⟨H.next, 0, none⟩) (xs.length + k) (2 * (xs.length + k)), X.add (rowBlk sz (xs.flatMap enc ++ ys))) := by
  rcases h with h | ⟨rfl, b, rfl, hb, hbn⟩
  · exact ⟨_, by simp, fun b hb => blk_killB hb, h.app he ys hk hy h1 h2⟩
  · refine ⟨H, rfl, fun b _ => rfl, ?_⟩
    unfold appV
    rw [if_neg hk]
    simp only [List.length_nil, Nat.zero_add] at h1 h2 ⊢
    rw [if_neg (by omega), if_pos ⟨h1, h2, hy⟩]
    simp
theorem rdo_ok (v : Value) (d : Dk) (fl : Bool) (at_ : Int) (tx : ByteArray) (H : Heap) (h : DkR H v d) :
    wpf (call K f_ref1_Do [v, .agg #[.bool fl, .int .i64 at_, .string tx]] H) fun r H' => Ext H H' ∧ ∃ v', r = .tuple #[v', .int .i64 (doE d (fl, at_, tx))] ∧ OwnD H.next H' v' (doR d (fl, at_, tx)) := by
  obtain ⟨s, c, rfl, hs, hc⟩ := h
  obtain ⟨S, C⟩ := d
  refine open_plain rfl fc_ref1_Do rfl (Nat.le_of_ble_eq_true rfl) ?_
  simp only at hs hc
  obtain ⟨ps, ks, rfl⟩ := hs.slice
  obtain ⟨pc, kc, rfl⟩ := hc.slice
  obtain ⟨G0, hG0⟩ : ∃ G0, G0 = ((H.add (rowBlk 2 [.slice ps S.length ks, .slice pc C.length kc])).add (rowBlk 3 [.bool fl, .int .i64 at_, .string tx])).add (rowBlk 2 [.slice none 0 0, .slice none 0 0]) := ⟨_, rfl⟩
  have E0 : Ext H G0 := by subst hG0; exact (((Ext.refl H).add _).add _).add _
  have n0 : G0.next = H.next + 3 := by subst hG0; simp
  have x1 : ¬ H.next = H.next + 1 := by omega
  have x2 : ¬ H.next = H.next + 1 + 1 := by omega
  have f0 : G0.blk H.next = some (rowBlk 2 [.slice ps S.length ks, .slice pc C.length kc]) := by subst hG0; simp [x1, x2]
  have f1 : G0.blk (H.next + 1) = some (rowBlk 3 [.bool fl, .int .i64 at_, .string tx]) := by subst hG0; simp
  have f2 : G0.blk (H.next + 1 + 1) = some (rowBlk 2 [.slice none 0 0, .slice none 0 0]) := by subst hG0; simp
  have blkE : ∀ {G : Heap}, Ext G0 G → (G.blk H.next = some (rowBlk 2 [.slice ps S.length ks, .slice pc C.length kc]) ∧ G.blk (H.next + 1) = some (rowBlk 3 [.bool fl, .int .i64 at_, .string tx]) ∧ G.blk (H.next + 1 + 1) = some (rowBlk 2 [.slice none 0 0, .slice none 0 0])) := fun hE =>
    ⟨by rw [hE.blk _ (by omega)]; exact f0, by rw [hE.blk _ (by omega)]; exact f1, by rw [hE.blk _ (by omega)]; exact f2⟩
  have c0 : ∀ o, G0.cell H.next o = (rowBlk 2 [.slice ps S.length ks, .slice pc C.length kc]).at_ o := fun o => by simp only [Heap.cell, f0]
  have c1 : ∀ o, G0.cell (H.next + 1) o = (rowBlk 3 [.bool fl, .int .i64 at_, .string tx]).at_ o := fun o => by simp only [Heap.cell, f1]
  have c2 : ∀ o, G0.cell (H.next + 1 + 1) o = (rowBlk 2 [.slice none 0 0, .slice none 0 0]).at_ o := fun o => by simp only [Heap.cell, f2]
  have hmay := rdskMay_ok _ _ (S, C) G0 (hs.ext E0) (hc.ext E0)
  have bad : ∀ B, Ext H (G0.set (H.next + 1 + 1) B) := fun B => E0.set (by omega) _
  by_cases hd : dOk (S, C) = true
  · obtain ⟨hl1, hl2, hsz, hw⟩ := dOk_len hd
    simp only at hl1 hl2 hsz hw
    obtain ⟨_, G1, k1, E1, s1, s2, rfl, o1, o2, oa⟩ := rcopyD_ok (.agg #[.slice ps S.length ks, .slice pc C.length kc]) (S, C) G0 ⟨_, _, rfl, hs.ext E0, hc.ext E0⟩ (by simp only; omega) (by simp only; omega)
    simp only at o1 o2
    obtain ⟨b0, b1, b2⟩ := blkE E1
    have d0 : ∀ o, G1.cell H.next o = (rowBlk 2 [.slice ps S.length ks, .slice pc C.length kc]).at_ o := fun o => by simp only [Heap.cell, b0]
    have d1 : ∀ o, G1.cell (H.next + 1) o = (rowBlk 3 [.bool fl, .int .i64 at_, .string tx]).at_ o := fun o => by simp only [Heap.cell, b1]
    have e2 := E1.next
    obtain ⟨p1, m1, hr1⟩ := (o1.rows encS_len).slice
    obtain ⟨p2, m2, hr2⟩ := (o2.rows encI_len).slice
    have hbel1 := o1.below
    have hbel2 := o2.below
    have z1 : ¬ H.next = G1.next := by omega
    have z2 : ¬ H.next + 1 = G1.next := by omega
    have z3 : ¬ H.next + 1 + 1 = G1.next := by omega
    cases fl with
    | false =>
      by_cases hw2 : wOk (at_, tx) = true
      · by_cases h512 : C.length = 512
        · have h512' : (512 : Int) ≤ (C.length : Int) := by omega
          have e1 : doO (S, C) (false, at_, tx) = none := by simp [doO, hd, hw2, h512]
          simp [← hG0, x1, x2, hmay, hd, c0, c1, c2, f2, hw2, h512', doE, doR, e1]
          exact ⟨bad _, OwnD.nil⟩
        · have h512' : ¬ (512 : Int) ≤ (C.length : Int) := by omega
          have e1 : doO (S, C) (false, at_, tx) = some (S, C ++ [(at_, tx)]) := by simp [doO, hd, hw2, h512]
          obtain ⟨G2, hG2⟩ : ∃ G2, G2 = ((G1.add (rowBlk 2 [.slice none 0 0, .slice none 0 0])).set G1.next (some (((rowBlk 2 [.slice none 0 0, .slice none 0 0]).put 0 s1).put 1 s2))).add (rowBlk 2 [.int .i64 at_, .string tx]) := ⟨_, rfl⟩
          have n2 : G2.next = G1.next + 2 := by subst hG2; simp
          have E2 : ∀ b, b < G1.next → G2.blk b = G1.blk b := fun b hb => by
            subst hG2; rw [blk_add, if_neg (by simp; omega), blk_set_ne (by omega), blk_add, if_neg (by omega)]
          have o2' : OwnZ encI 2 G0.next G2 s2 C := o2.frame (by omega) fun b _ hb _ => E2 b hb
          have o1' : OwnZ encS 1 G0.next G2 s1 S := o1.frame (by omega) fun b _ hb _ => E2 b hb
          obtain ⟨X, nX, EX, k3⟩ := o2'.app2 encI_len (bytes := 24) (k := 1) [.int .i64 at_, .string tx] (by omega) rfl (by omega) (by omega)
          have g1 : G2.blk G1.next = some (((rowBlk 2 [.slice none 0 0, .slice none 0 0]).put 0 s1).put 1 s2) := by subst hG2; simp
          have gX1 : X.blk G1.next = some (((rowBlk 2 [.slice none 0 0, .slice none 0 0]).put 0 s1).put 1 s2) := by rw [EX _ (hbel2.notIn (Nat.le_refl _))]; exact g1
          have gX2 : X.blk (H.next + 1 + 1) = some (rowBlk 2 [.slice none 0 0, .slice none 0 0]) := by rw [EX _ (o2.notIn (by omega)), E2 _ (by omega)]; exact b2
          have cX1 : ∀ o, X.cell G1.next o = (((rowBlk 2 [.slice none 0 0, .slice none 0 0]).put 0 s1).put 1 s2).at_ o := fun o => by simp only [Heap.cell, gX1]
          have cX2 : ∀ o, X.cell (H.next + 1 + 1) o = (rowBlk 2 [.slice none 0 0, .slice none 0 0]).at_ o := fun o => by simp only [Heap.cell, gX2]
          have tB : G2.blk (G1.next + 1) = some (rowBlk 2 [.int .i64 at_, .string tx]) := by subst hG2; simp
          have tc : ∀ o, G2.cell (G1.next + 1) o = (rowBlk 2 [.int .i64 at_, .string tx]).at_ o := fun o => by simp only [Heap.cell, tB]
          have y1 : ¬ G1.next = G2.next := by omega
          have y2 : ¬ H.next + 1 + 1 = G2.next := by omega
          subst hr1
          subst hr2
          simp [← hG0, x1, x2, hmay, hd, c0, c1, c2, f2, hw2, h512', doE, doR, e1, k1, d0, d1, z1, z2, z3, ← hG2, tc, k3, cX1, cX2, gX1, gX2, nX, y1, y2]
          have hEX : Ext H X := ⟨by have := E0.next; omega, fun b hb => by rw [EX b (o2.notIn (by omega)), E2 b (by omega), E1.blk b (by omega), E0.blk b hb]⟩
          have hfar : ∀ b, ¬ NotIn (.slice p1 S.length m1) b → b < G1.next := fun b hb => Nat.lt_of_not_le fun hh => hb (hbel1.notIn hh)
          refine ⟨((hEX.add _).set (by omega) _).set (by omega) _, _, _, rfl, ?_, ?_, ?_⟩
          · refine (o1.frame (H' := _) (by simp; omega) fun b hb1 hb2 hb3 => ?_).low (by omega)
            rw [blk_set_ne (by omega), blk_set_ne (by omega), blk_add, if_neg (by omega), EX b (oa b hb3), E2 b (by omega)]
          · have hz := Own.new' (enc := encI) (sz := 2) (n0 := G2.next) (b := G2.next) (H := X) (xs := C ++ [(at_, tx)]) nX.symm (Nat.le_refl _) (by simp; omega) rfl
            have hz2 := hz.set (k := G1.next) (by omega) (some ((((rowBlk 2 [.slice none 0 0, .slice none 0 0]).put 0 (.slice p1 S.length m1)).put 1 (.slice p2 C.length m2)).put 1 (.slice (some ⟨G2.next, 0, none⟩) (C.length + 1) (2 * (C.length + 1)))))
            have := hz2.set (k := H.next + 1 + 1) (by omega) (some (((rowBlk 2 [.slice none 0 0, .slice none 0 0]).put 0 (.slice p1 S.length m1)).put 1 (.slice (some ⟨G2.next, 0, none⟩) (C.length + 1) (2 * (C.length + 1)))))
            exact .inl (by simpa using this.low (m := H.next) (by omega))
          · intro b hb a n cc e
            cases e
            have := hfar b hb
            simp only; omega
      · have e1 : doO (S, C) (false, at_, tx) = none := by simp [doO, hd, hw2]
        have hw2' : wOk (at_, tx) = false := by simpa using hw2
        simp [← hG0, x1, x2, hmay, hd, c0, c1, c2, f2, hw2', doE, doR, e1]
        exact ⟨bad _, OwnD.nil⟩
    | true =>
      by_cases hz : at_ = 0 ∧ tx.size = 0
      · obtain ⟨rfl, hz⟩ := hz
        have e1 : doO (S, C) (true, 0, tx) = some (applyW S C, []) := by simp [doO, hd, hz]
        have hOwn := o1.own (fun h => by rw [h] at hl1; simp at hl1)
        subst hr1
        subst hr2
        simp [← hG0, x1, x2, hmay, hd, c0, c1, c2, f2, hz, doE, doR, e1, k1, d0, d1, z1, z2, z3]
        refine wp_nxt (wp_for (fun k e G => ∃ (i : Nat) (B6 : Blk), k = C.length - i ∧ i ≤ C.length ∧ Ext G0 G ∧ G1.next < G.next ∧ G.blk G1.next = some B6 ∧ B6.ro = false ∧ B6.at_ 0 = some (.slice p1 S.length m1) ∧ B6.at_ 1 = some (.slice p2 C.length m2) ∧ Own encS 1 G0.next G (.slice p1 S.length m1) (applyW S (C.take i)) ∧ e 7 = .int .i64 (i : Int) ∧ e 6 = .pointer (some ⟨G1.next, 0, none⟩) ∧ e 4 = .pointer (some ⟨H.next + 1 + 1, 0, none⟩) ∧ e 2 = .pointer (some ⟨H.next, 0, none⟩)) C.length ⟨0, ((rowBlk 2 [.slice none 0 0, .slice none 0 0]).put 0 (.slice p1 S.length m1)).put 1 (.slice p2 C.length m2), by omega, by omega, (E1.add _).set (by omega) _, by simp, by simp, rfl, by simp, by simp, ?_, by simp, by simp, by simp, by simp⟩ ?_)
        · rw [List.take_zero]
          exact (hOwn.ext ((Ext.refl G1).add _)).setB (hbel1.notIn (Nat.le_refl _)) _
        · rintro k e G ⟨i, B6, rfl, hi, hE, hlt6, hB6, hro6, a60, a61, hO, h7, h6, h4, h2⟩
          have cB : ∀ o, G.cell G1.next o = B6.at_ o := fun o => by simp only [Heap.cell, hB6]
          obtain ⟨g0, g1, g2⟩ := blkE hE
          have cg0 : ∀ o, G.cell H.next o = (rowBlk 2 [.slice ps S.length ks, .slice pc C.length kc]).at_ o := fun o => by simp only [Heap.cell, g0]
          have cg2 : ∀ o, G.cell (H.next + 1 + 1) o = (rowBlk 2 [.slice none 0 0, .slice none 0 0]).at_ o := fun o => by simp only [Heap.cell, g2]
          by_cases hlt : i < C.length
          · obtain ⟨bC, oC, hpC, hbC, kk0, kk1⟩ := hc.at2 hlt
            have hwi := wOk_of (hw C[i] (List.getElem_mem _))
            have htk := applyW_take S C hlt
            generalize C[i] = w at *
            obtain ⟨wa, wt⟩ := w
            obtain ⟨kw, rfl, hkw, _⟩ := hwi
            subst hpC
            simp at kk0 kk1 htk
            have hEH := E0.trans hE
            rw [← hEH.cell (o := _) hbC] at kk0 kk1
            have hla : (applyW S (C.take i)).length = S.length := applyW_len _ _
            obtain ⟨b, B, hv, hbn, hbn2, hB, hro, hat, hup⟩ := hO.blkOf encS_len (fun h => by rw [h] at hla; simp at hla; omega)
            rw [hla] at hv
            have hv1 : p1 = some ⟨b, 0, none⟩ := by cases hv; rfl
            subst hv1
            have hat0 := hat kw (by omega) 0 (by omega)
            have hnew := hup kw 0 (by omega) (by omega) wt (.string wt) (fun r hr => by
              obtain rfl : r = 0 := by omega
              rfl)
            rw [← htk] at hnew
            have zb6 : ¬ G1.next = b := fun e => by
              have hh := hbel1
              have := hh _ _ _ rfl
              simp only at this; omega
            have hkS : kw < S.length := by omega
            have cb : ∀ o, G.cell b o = B.at_ o := fun o => by simp only [Heap.cell, hB]
            simp at hat0
            simp [c_ref1_Do_l11, h7, h6, h4, h2, hlt, cg0, kk0, kk1, cB, a60, a61, hkS, hB, hro, hat0, natOf_int, cb]
            refine ⟨C.length - (i + 1), by omega, i + 1, rfl, hlt, hE.set hbn _, by omega, B6, by rw [if_neg zb6]; exact hB6, hro6, a60, a61, ?_, wrap_succ (by omega)⟩
            rw [Nat.mul_one, Nat.add_zero] at hnew
            exact hnew
          · obtain rfl : i = C.length := by omega
            rw [List.take_length] at hO
            have z4 : ¬ H.next + 1 + 1 = G1.next := by omega
            simp [c_ref1_Do_l11, h7, h6, h4, h2, cg0, cB, a60, a61, cg2, g2, hB6, hro6, z4]
            exact ⟨((E0.trans hE).set (by omega) _).set (by omega) _, _, _, rfl, .inl (((hO.setB (hbel1.notIn (Nat.le_refl _)) _).set (by omega) _).low (by omega)), OwnZ.nil, fun b _ => notIn_nil⟩
      · have e1 : doO (S, C) (true, at_, tx) = none := by simp [doO, hd, hz]
        by_cases ha : at_ = 0
        · subst ha
          have ht : ¬ tx.size = 0 := by omega
          simp [← hG0, x1, x2, hmay, hd, c0, c1, c2, f2, ht, doE, doR, e1]
          exact ⟨E0.set (by omega) _, OwnD.nil⟩
        · simp [← hG0, x1, x2, hmay, hd, c0, c1, c2, f2, ha, doE, doR, e1]
          exact ⟨E0.set (by omega) _, OwnD.nil⟩
  · have hd' : dOk (S, C) = false := by simpa using hd
    have e1 : doO (S, C) (fl, at_, tx) = none := by simp [doO, hd]
    simp [← hG0, x1, x2, hmay, hd', c0, c1, c2, f2, doE, doR, e1]
    exact ⟨bad _, OwnD.nil⟩
end Go.AM
end TextR6Z
section TextR6Ya
/- Contracts: crashes. -/
namespace Go.AM
open Go.Proofs
set_option linter.unusedVariables false
set_option linter.unusedSimpArgs false
set_option maxRecDepth 100000
attribute [-simp] ByteArray.size_eq_zero_iff
def oddK (keep : ByteArray) (i : Nat) : Bool := decide (i < keep.size) && decide (bt keep i % 2 = 1)
def crStep (keep : ByteArray) (torn at_ : Int) (S : List ByteArray) (i : Nat) (w : Img) : List ByteArray :=
  if (i : Int) = torn then S.set w.1.toNat (tornR (S[w.1.toNat]?.getD ⟨#[]⟩) w.2 at_) else if oddK keep i = true then S.set w.1.toNat w.2 else S
def crN (keep : ByteArray) (torn at_ : Int) (S : List ByteArray) (C : List Img) : Nat → List ByteArray
  | 0 => S
  | i + 1 => match C[i]? with
    | some w => crStep keep torn at_ (crN keep torn at_ S C i) i w
    | none => crN keep torn at_ S C i
theorem crStep_len (keep : ByteArray) (torn at_ : Int) (S : List ByteArray) (i : Nat) (w : Img) : (crStep keep torn at_ S i w).length = S.length := by
  unfold crStep; split
  · simp
  · split <;> simp
theorem crN_len (keep : ByteArray) (torn at_ : Int) (S : List ByteArray) (C : List Img) : ∀ i, (crN keep torn at_ S C i).length = S.length
  | 0 => rfl
  | i + 1 => by
    simp only [crN]
    cases C[i]? with
    | none => exact crN_len keep torn at_ S C i
    | some w => simp only; rw [crStep_len]; exact crN_len keep torn at_ S C i
theorem crN_succ (keep : ByteArray) (torn at_ : Int) (S : List ByteArray) (C : List Img) {i : Nat} (h : i < C.length) : crN keep torn at_ S C (i + 1) = crStep keep torn at_ (crN keep torn at_ S C i) i C[i] := by
  simp only [crN]; rw [List.getElem?_eq_getElem h]
def crOk (d : Dk) (at_ : Int) : Bool := dOk d && decide (0 ≤ at_) && decide (at_ ≤ 64)
def crR (d : Dk) (keep : ByteArray) (torn at_ : Int) : Dk := if crOk d at_ then (crN keep torn at_ d.1 d.2 d.2.length, []) else ([], [])
def crE (d : Dk) (at_ : Int) : Int := if crOk d at_ then 0 else 200
theorem rem2_u8 (t : TypeId) (s : ByteArray) (i : Int) : binV K.P .rem t (.int .u8 (bt s i)) (.int .u8 2) = some (.int .u8 (bt s i % 2)) := by
  rw [binV_rem _ _ _ _ _ (by omega), Int.tmod_eq_emod_of_nonneg (bt_range s i).1]
theorem and1_u8 (x : Int) (h0 : 0 ≤ x) (h1 : x ≤ 255) : bits .and .u8 x 1 = x % 2 := by
  obtain ⟨n, rfl⟩ := Int.eq_ofNat_of_zero_le h0
  have : ∀ n : Fin 256, bits .and .u8 ((n.val : Nat) : Int) 1 = ((n.val : Nat) : Int) % 2 := by decide +kernel
  exact this ⟨n, by omega⟩
theorem crash_ok (v : Value) (d : Dk) (keep : ByteArray) (torn at_ : Int) (H : Heap) (h : DkR H v d) :
    wpf (call K f_disk_Crash [v, .string keep, .int .i64 torn, .int .i64 at_] H) fun r H' => Ext H H' ∧ ∃ v', r = .tuple #[v', .int .i64 (crE d at_)] ∧ OwnD H.next H' v' (crR d keep torn at_) := by
  obtain ⟨s, c, rfl, hs, hc⟩ := h
  obtain ⟨S, C⟩ := d
  refine open_plain rfl fc_disk_Crash rfl (Nat.le_of_ble_eq_true rfl) ?_
  simp only at hs hc
  obtain ⟨ps, ks, rfl⟩ := hs.slice
  obtain ⟨pc, kc, rfl⟩ := hc.slice
  obtain ⟨G0, hG0⟩ : ∃ G0, G0 = (H.add (rowBlk 2 [.slice ps S.length ks, .slice pc C.length kc])).add (rowBlk 2 [.slice none 0 0, .slice none 0 0]) := ⟨_, rfl⟩
  have E0 : Ext H G0 := by subst hG0; exact ((Ext.refl H).add _).add _
  have n0 : G0.next = H.next + 2 := by subst hG0; simp
  have x1 : ¬ H.next = H.next + 1 := by omega
  have f0 : G0.blk H.next = some (rowBlk 2 [.slice ps S.length ks, .slice pc C.length kc]) := by subst hG0; simp [x1]
  have f2 : G0.blk (H.next + 1) = some (rowBlk 2 [.slice none 0 0, .slice none 0 0]) := by subst hG0; simp
  have blkE : ∀ {G : Heap}, Ext G0 G → (G.blk H.next = some (rowBlk 2 [.slice ps S.length ks, .slice pc C.length kc]) ∧ G.blk (H.next + 1) = some (rowBlk 2 [.slice none 0 0, .slice none 0 0])) := fun hE =>
    ⟨by rw [hE.blk _ (by omega)]; exact f0, by rw [hE.blk _ (by omega)]; exact f2⟩
  have c0 : ∀ o, G0.cell H.next o = (rowBlk 2 [.slice ps S.length ks, .slice pc C.length kc]).at_ o := fun o => by simp only [Heap.cell, f0]
  have c2 : ∀ o, G0.cell (H.next + 1) o = (rowBlk 2 [.slice none 0 0, .slice none 0 0]).at_ o := fun o => by simp only [Heap.cell, f2]
  have hmay := dskMay_ok _ _ (S, C) G0 (hs.ext E0) (hc.ext E0)
  have bad : ∀ B, Ext H (G0.set (H.next + 1) B) := fun B => E0.set (by omega) _
  by_cases hok : crOk (S, C) at_ = true
  · have hok' := hok
    simp only [crOk, Bool.and_eq_true, decide_eq_true_eq] at hok'
    obtain ⟨⟨hd, ha1⟩, ha2⟩ := hok'
    obtain ⟨hl1, hl2, hsz, hw⟩ := dOk_len hd
    simp only at hl1 hl2 hsz hw
    obtain ⟨r1, G1, k1, E1, o1⟩ := cloneS_ok _ S G0 (hs.ext E0) (by omega)
    obtain ⟨b0, b2⟩ := blkE E1
    have d0 : ∀ o, G1.cell H.next o = (rowBlk 2 [.slice ps S.length ks, .slice pc C.length kc]).at_ o := fun o => by simp only [Heap.cell, b0]
    have e2 := E1.next
    have hOwn := o1.own (fun h => by rw [h] at hl1; simp at hl1)
    obtain ⟨p1, m1, hr1⟩ := (o1.rows encS_len).slice
    subst hr1
    have z1 : ¬ H.next = G1.next := by omega
    have a1 : ¬ at_ < 0 := by omega
    have a2 : ¬ 64 < at_ := by omega
    simp [← hG0, x1, hmay, hd, c0, c2, f2, a1, a2, k1, d0, z1, crR, crE, hok]
    have hbel := hOwn.below
    refine wp_nxt (wp_for (fun k e G => ∃ (i : Nat) (B6 : Blk), k = C.length - i ∧ i ≤ C.length ∧ Ext G0 G ∧ G1.next < G.next ∧ G.blk G1.next = some B6 ∧ B6.ro = false ∧ B6.at_ 0 = some (.slice p1 S.length m1) ∧ B6.at_ 1 = some (.slice none 0 0) ∧ Own encS 1 G0.next G (.slice p1 S.length m1) (crN keep torn at_ S C i) ∧ e 31 = .slice pc C.length kc ∧ e 32 = .int .i64 (C.length : Int) ∧ e 33 = .int .i64 (i : Int) ∧ e 10 = .pointer (some ⟨G1.next, 0, none⟩) ∧ e 8 = .pointer (some ⟨H.next + 1, 0, none⟩) ∧ e 1 = .string keep ∧ e 2 = .int .i64 torn ∧ e 3 = .int .i64 at_) C.length ⟨0, ((rowBlk 2 [.slice none 0 0, .slice none 0 0]).put 0 (.slice p1 S.length m1)).put 1 (.slice none 0 0), by omega, by omega, (E1.add _).set (by omega) _, by simp, by simp, rfl, by simp, by simp, ?_, by simp, by simp, by simp, by simp, by simp, by simp, by simp, by simp⟩ ?_)
    · exact (hOwn.ext ((Ext.refl G1).add _)).setB (hbel.notIn (Nat.le_refl _)) _
    · rintro k e G ⟨i, B6, rfl, hi, hE, hlt6, hB6, hro6, a60, a61, hO, h31, h32, h33, h10, h8, hk1, hk2, hk3⟩
      have cB : ∀ o, G.cell G1.next o = B6.at_ o := fun o => by simp only [Heap.cell, hB6]
      obtain ⟨g0, g2⟩ := blkE hE
      have cg2 : ∀ o, G.cell (H.next + 1) o = (rowBlk 2 [.slice none 0 0, .slice none 0 0]).at_ o := fun o => by simp only [Heap.cell, g2]
      by_cases hlt : i < C.length
      · obtain ⟨bC, oC, hpC, hbC, kk0, kk1⟩ := hc.at2 hlt
        have hwi := wOk_of (hw C[i] (List.getElem_mem _))
        have htk := crN_succ keep torn at_ S C hlt
        generalize C[i] = w at *
        obtain ⟨wa, wt⟩ := w
        obtain ⟨kw, rfl, hkw, _⟩ := hwi
        subst hpC
        simp at kk0 kk1 
        have hEH := E0.trans hE
        rw [← hEH.cell (o := _) hbC] at kk0 kk1
        have zb : ¬ bC = G.next := by have := hEH.next; omega
        have z6 : ¬ G1.next = G.next := by omega
        have hO2 := (hO.ext ((Ext.refl G).add (rowBlk 2 [.int .i64 0, .string ⟨#[]⟩]))).setB (k := G.next) (hO.below.notIn (Nat.le_refl _)) (some (((rowBlk 2 [.int .i64 0, .string ⟨#[]⟩]).put 0 (.int .i64 (kw : Int))).put 1 (.string wt)))
        have hla : (crN keep torn at_ S C i).length = S.length := crN_len _ _ _ _ _ _
        obtain ⟨b, B, hv, hbn, hbn2, hB, hro, hat, hup⟩ := hO2.blkOf encS_len (fun h => by rw [h] at hla; simp at hla; omega)
        rw [hla] at hv
        have hv1 : p1 = some ⟨b, 0, none⟩ := by cases hv; rfl
        subst hv1
        have hkl : kw < (crN keep torn at_ S C i).length := by omega
        have hat0 := hat kw hkl 0 (by omega)
        have hnew := fun x' => hup kw 0 hkl (by omega) x' (.string x') (fun r hr => by
          obtain rfl : r = 0 := by omega
          rfl)
        have zb6 : ¬ G1.next = b := fun e => by
          have hh := hbel
          have := hh _ _ _ rfl
          simp only at this; omega
        have hkS : kw < S.length := by omega
        have hbG : ¬ b = G.next := fun e => by
          have := hO.below _ _ _ rfl
          simp only at this; omega
        rw [blk_set_ne hbG, blk_add, if_neg hbG] at hB
        have cb : ∀ o, G.cell b o = B.at_ o := fun o => by simp only [Heap.cell, hB]
        have hgk : (crN keep torn at_ S C i)[kw]?.getD ⟨#[]⟩ = (crN keep torn at_ S C i)[kw] := by rw [List.getElem?_eq_getElem hkl]; rfl
        simp only [crStep, Int.toNat_natCast, hgk] at htk
        generalize (crN keep torn at_ S C i)[kw] = old at *
        simp at hat0
        have hs1 := wrap_succ (i := i) (by omega)
        have hEn := hE.next
        by_cases ht : (i : Int) = torn
        · rw [if_pos ht] at htk
          have hn2 := hnew (tornR old wt at_)
          rw [← htk, Nat.mul_one, Nat.add_zero] at hn2
          subst ht
          simp [c_disk_Crash_l13, h31, h32, h33, h10, h8, hk1, hk2, hk3, hlt, kk0, kk1, zb, z6, cB, a60, a61, hkS, hB, hro, hat0, natOf_int, hbG, cb, torn_ok]
          exact ⟨C.length - (i + 1), by omega, i + 1, rfl, hlt, ((hE.add _).set (by omega) _).set hbn _, by omega, B6, by rw [if_neg zb6]; exact hB6, hro6, a60, a61, hn2, hs1⟩
        · rw [if_neg ht] at htk
          by_cases ho : oddK keep i = true
          · rw [if_pos ho] at htk
            have hn2 := hnew wt
            rw [← htk, Nat.mul_one, Nat.add_zero] at hn2
            simp only [oddK, Bool.and_eq_true, decide_eq_true_eq] at ho
            simp [c_disk_Crash_l13, h31, h32, h33, h10, h8, hk1, hk2, hk3, hlt, kk0, kk1, zb, z6, cB, a60, a61, hkS, hB, hro, hat0, natOf_int, hbG, cb, ht, ho, rem2_u8]
            exact ⟨C.length - (i + 1), by omega, i + 1, rfl, hlt, ((hE.add _).set (by omega) _).set hbn _, by omega, B6, by rw [if_neg zb6]; exact hB6, hro6, a60, a61, hn2, hs1⟩
          · rw [if_neg ho] at htk
            by_cases hks : i < keep.size
            · have hbt : ¬ bt keep i % 2 = 1 := fun hh => ho (by simp [oddK, hks, hh])
              simp [c_disk_Crash_l13, h31, h32, h33, h10, h8, hk1, hk2, hk3, hlt, kk0, kk1, zb, z6, cB, a60, a61, hkS, hB, hro, hat0, natOf_int, hbG, cb, ht, hks, hbt, rem2_u8]
              exact ⟨C.length - (i + 1), by omega, i + 1, rfl, hlt, (hE.add _).set (by omega) _, by omega, B6, hB6, hro6, a60, a61, by rw [htk]; exact hO2, hs1⟩
            · simp [c_disk_Crash_l13, h31, h32, h33, h10, h8, hk1, hk2, hk3, hlt, kk0, kk1, zb, z6, cB, a60, a61, hkS, hB, hro, hat0, natOf_int, hbG, cb, ht, hks]
              exact ⟨C.length - (i + 1), by omega, i + 1, rfl, hlt, (hE.add _).set (by omega) _, by omega, B6, hB6, hro6, a60, a61, by rw [htk]; exact hO2, hs1⟩
      · obtain rfl : i = C.length := by omega
        simp [c_disk_Crash_l13, h32, h33, h10, h8, cB, a60, a61, cg2, g2]
        exact ⟨(E0.trans hE).set (by omega) _, _, _, rfl, .inl ((hO.set (by omega) _).low (by omega)), OwnZ.nil, fun b _ => notIn_nil⟩
  · have hok' : crOk (S, C) at_ = false := by simpa using hok
    by_cases hd : dOk (S, C) = true
    · by_cases ha : at_ < 0
      · simp [← hG0, x1, hmay, hd, c0, c2, f2, ha, crR, crE, hok']
        exact ⟨bad _, OwnD.nil⟩
      · have ha2 : 64 < at_ := by simp [crOk, hd] at hok'; omega
        simp [← hG0, x1, hmay, hd, c0, c2, f2, ha, ha2, crR, crE, hok']
        exact ⟨bad _, OwnD.nil⟩
    · have hd' : dOk (S, C) = false := by simpa using hd
      simp [← hG0, x1, hmay, hd', c0, c2, f2, crR, crE, hok']
      exact ⟨bad _, OwnD.nil⟩
end Go.AM
end TextR6Ya
section TextR6Za
/- Contracts: the document's crashes. -/
namespace Go.AM
open Go.Proofs
set_option linter.unusedVariables false
set_option linter.unusedSimpArgs false
set_option maxRecDepth 100000
attribute [-simp] ByteArray.size_eq_zero_iff
theorem rcrash_ok (v : Value) (d : Dk) (keep : ByteArray) (torn at_ : Int) (H : Heap) (h : DkR H v d) :
    wpf (call K f_ref1_Crash [v, .string keep, .int .i64 torn, .int .i64 at_] H) fun r H' => Ext H H' ∧ ∃ v', r = .tuple #[v', .int .i64 (crE d at_)] ∧ OwnD H.next H' v' (crR d keep torn at_) := by
  obtain ⟨s, c, rfl, hs, hc⟩ := h
  obtain ⟨S, C⟩ := d
  refine open_plain rfl fc_ref1_Crash rfl (Nat.le_of_ble_eq_true rfl) ?_
  simp only at hs hc
  obtain ⟨ps, ks, rfl⟩ := hs.slice
  obtain ⟨pc, kc, rfl⟩ := hc.slice
  obtain ⟨G0, hG0⟩ : ∃ G0, G0 = (H.add (rowBlk 2 [.slice ps S.length ks, .slice pc C.length kc])).add (rowBlk 2 [.slice none 0 0, .slice none 0 0]) := ⟨_, rfl⟩
  have E0 : Ext H G0 := by subst hG0; exact ((Ext.refl H).add _).add _
  have n0 : G0.next = H.next + 2 := by subst hG0; simp
  have x1 : ¬ H.next = H.next + 1 := by omega
  have f0 : G0.blk H.next = some (rowBlk 2 [.slice ps S.length ks, .slice pc C.length kc]) := by subst hG0; simp [x1]
  have f2 : G0.blk (H.next + 1) = some (rowBlk 2 [.slice none 0 0, .slice none 0 0]) := by subst hG0; simp
  have blkE : ∀ {G : Heap}, Ext G0 G → (G.blk H.next = some (rowBlk 2 [.slice ps S.length ks, .slice pc C.length kc]) ∧ G.blk (H.next + 1) = some (rowBlk 2 [.slice none 0 0, .slice none 0 0])) := fun hE =>
    ⟨by rw [hE.blk _ (by omega)]; exact f0, by rw [hE.blk _ (by omega)]; exact f2⟩
  have c0 : ∀ o, G0.cell H.next o = (rowBlk 2 [.slice ps S.length ks, .slice pc C.length kc]).at_ o := fun o => by simp only [Heap.cell, f0]
  have c2 : ∀ o, G0.cell (H.next + 1) o = (rowBlk 2 [.slice none 0 0, .slice none 0 0]).at_ o := fun o => by simp only [Heap.cell, f2]
  have hmay := rdskMay_ok _ _ (S, C) G0 (hs.ext E0) (hc.ext E0)
  have bad : ∀ B, Ext H (G0.set (H.next + 1) B) := fun B => E0.set (by omega) _
  by_cases hok : crOk (S, C) at_ = true
  · have hok' := hok
    simp only [crOk, Bool.and_eq_true, decide_eq_true_eq] at hok'
    obtain ⟨⟨hd, ha1⟩, ha2⟩ := hok'
    obtain ⟨hl1, hl2, hsz, hw⟩ := dOk_len hd
    simp only at hl1 hl2 hsz hw
    obtain ⟨_, G1, k1, E1, s1, s2, rfl, o1, o2, oa⟩ := rcopyD_ok (.agg #[.slice ps S.length ks, .slice pc C.length kc]) (S, C) G0 ⟨_, _, rfl, hs.ext E0, hc.ext E0⟩ (by simp only; omega) (by simp only; omega)
    simp only at o1 o2
    obtain ⟨p2, m2, hr2⟩ := (o2.rows encI_len).slice
    subst hr2
    obtain ⟨b0, b2⟩ := blkE E1
    have d0 : ∀ o, G1.cell H.next o = (rowBlk 2 [.slice ps S.length ks, .slice pc C.length kc]).at_ o := fun o => by simp only [Heap.cell, b0]
    have e2 := E1.next
    have hOwn := o1.own (fun h => by rw [h] at hl1; simp at hl1)
    obtain ⟨p1, m1, hr1⟩ := (o1.rows encS_len).slice
    subst hr1
    have z1 : ¬ H.next = G1.next := by omega
    have a1 : ¬ at_ < 0 := by omega
    have a2 : ¬ 64 < at_ := by omega
    simp [← hG0, x1, hmay, hd, c0, c2, f2, a1, a2, k1, d0, z1, crR, crE, hok]
    have hbel := hOwn.below
    refine wp_nxt (wp_for (fun k e G => ∃ (i : Nat) (B6 : Blk), k = C.length - i ∧ i ≤ C.length ∧ Ext G0 G ∧ G1.next < G.next ∧ G.blk G1.next = some B6 ∧ B6.ro = false ∧ B6.at_ 0 = some (.slice p1 S.length m1) ∧ B6.at_ 1 = some (.slice none 0 0) ∧ Own encS 1 G0.next G (.slice p1 S.length m1) (crN keep torn at_ S C i) ∧ e 4 = .pointer (some ⟨H.next, 0, none⟩) ∧ e 11 = .int .i64 (i : Int) ∧ e 10 = .pointer (some ⟨G1.next, 0, none⟩) ∧ e 8 = .pointer (some ⟨H.next + 1, 0, none⟩) ∧ e 1 = .string keep ∧ e 2 = .int .i64 torn ∧ e 3 = .int .i64 at_) C.length ⟨0, (((rowBlk 2 [.slice none 0 0, .slice none 0 0]).put 0 (.slice p1 S.length m1)).put 1 (.slice p2 C.length m2)).put 1 (.slice none 0 0), by omega, by omega, (E1.add _).set (by omega) _, by simp, by simp, rfl, by simp, by simp, ?_, by simp, by simp, by simp, by simp, by simp, by simp, by simp⟩ ?_)
    · exact (hOwn.ext ((Ext.refl G1).add _)).setB (hbel.notIn (Nat.le_refl _)) _
    · rintro k e G ⟨i, B6, rfl, hi, hE, hlt6, hB6, hro6, a60, a61, hO, h4, h11, h10, h8, hk1, hk2, hk3⟩
      have cB : ∀ o, G.cell G1.next o = B6.at_ o := fun o => by simp only [Heap.cell, hB6]
      obtain ⟨g0, g2⟩ := blkE hE
      have cg0 : ∀ o, G.cell H.next o = (rowBlk 2 [.slice ps S.length ks, .slice pc C.length kc]).at_ o := fun o => by simp only [Heap.cell, g0]
      have cg2 : ∀ o, G.cell (H.next + 1) o = (rowBlk 2 [.slice none 0 0, .slice none 0 0]).at_ o := fun o => by simp only [Heap.cell, g2]
      by_cases hlt : i < C.length
      · obtain ⟨bC, oC, hpC, hbC, kk0, kk1⟩ := hc.at2 hlt
        have hwi := wOk_of (hw C[i] (List.getElem_mem _))
        have htk := crN_succ keep torn at_ S C hlt
        generalize C[i] = w at *
        obtain ⟨wa, wt⟩ := w
        obtain ⟨kw, rfl, hkw, _⟩ := hwi
        subst hpC
        simp at kk0 kk1 
        have hEH := E0.trans hE
        rw [← hEH.cell (o := _) hbC] at kk0 kk1
        have zb : ¬ bC = G.next := by have := hEH.next; omega
        have z6 : ¬ G1.next = G.next := by omega
        have hO2 := (hO.ext ((Ext.refl G).add (rowBlk 2 [.int .i64 0, .string ⟨#[]⟩]))).setB (k := G.next) (hO.below.notIn (Nat.le_refl _)) (some (((rowBlk 2 [.int .i64 0, .string ⟨#[]⟩]).put 0 (.int .i64 (kw : Int))).put 1 (.string wt)))
        have hla : (crN keep torn at_ S C i).length = S.length := crN_len _ _ _ _ _ _
        obtain ⟨b, B, hv, hbn, hbn2, hB, hro, hat, hup⟩ := hO2.blkOf encS_len (fun h => by rw [h] at hla; simp at hla; omega)
        rw [hla] at hv
        have hv1 : p1 = some ⟨b, 0, none⟩ := by cases hv; rfl
        subst hv1
        have hkl : kw < (crN keep torn at_ S C i).length := by omega
        have hat0 := hat kw hkl 0 (by omega)
        have hnew := fun x' => hup kw 0 hkl (by omega) x' (.string x') (fun r hr => by
          obtain rfl : r = 0 := by omega
          rfl)
        have zb6 : ¬ G1.next = b := fun e => by
          have hh := hbel
          have := hh _ _ _ rfl
          simp only at this; omega
        have hkS : kw < S.length := by omega
        have hbG : ¬ b = G.next := fun e => by
          have := hO.below _ _ _ rfl
          simp only at this; omega
        rw [blk_set_ne hbG, blk_add, if_neg hbG] at hB
        have cb : ∀ o, G.cell b o = B.at_ o := fun o => by simp only [Heap.cell, hB]
        have hgk : (crN keep torn at_ S C i)[kw]?.getD ⟨#[]⟩ = (crN keep torn at_ S C i)[kw] := by rw [List.getElem?_eq_getElem hkl]; rfl
        simp only [crStep, Int.toNat_natCast, hgk] at htk
        generalize (crN keep torn at_ S C i)[kw] = old at *
        simp at hat0
        have hs1 := wrap_succ (i := i) (by omega)
        have hEn := hE.next
        by_cases ht : (i : Int) = torn
        · rw [if_pos ht] at htk
          have hn2 := hnew (tornR old wt at_)
          rw [← htk, Nat.mul_one, Nat.add_zero] at hn2
          subst ht
          simp [c_ref1_Crash_l14, h4, h11, cg0, h10, h8, hk1, hk2, hk3, hlt, kk0, kk1, zb, z6, cB, a60, a61, hkS, hB, hro, hat0, natOf_int, hbG, cb, rtorn_ok]
          exact ⟨C.length - (i + 1), by omega, i + 1, rfl, hlt, ((hE.add _).set (by omega) _).set hbn _, by omega, B6, by rw [if_neg zb6]; exact hB6, hro6, a60, a61, hn2, hs1⟩
        · rw [if_neg ht] at htk
          by_cases ho : oddK keep i = true
          · rw [if_pos ho] at htk
            have hn2 := hnew wt
            rw [← htk, Nat.mul_one, Nat.add_zero] at hn2
            simp only [oddK, Bool.and_eq_true, decide_eq_true_eq] at ho
            simp [c_ref1_Crash_l14, h4, h11, cg0, h10, h8, hk1, hk2, hk3, hlt, kk0, kk1, zb, z6, cB, a60, a61, hkS, hB, hro, hat0, natOf_int, hbG, cb, ht, ho, and1_u8 _ (bt_range keep i).1 (bt_range keep i).2]
            exact ⟨C.length - (i + 1), by omega, i + 1, rfl, hlt, ((hE.add _).set (by omega) _).set hbn _, by omega, B6, by rw [if_neg zb6]; exact hB6, hro6, a60, a61, hn2, hs1⟩
          · rw [if_neg ho] at htk
            by_cases hks : i < keep.size
            · have hbt : ¬ bt keep i % 2 = 1 := fun hh => ho (by simp [oddK, hks, hh])
              simp [c_ref1_Crash_l14, h4, h11, cg0, h10, h8, hk1, hk2, hk3, hlt, kk0, kk1, zb, z6, cB, a60, a61, hkS, hB, hro, hat0, natOf_int, hbG, cb, ht, hks, hbt, and1_u8 _ (bt_range keep i).1 (bt_range keep i).2]
              exact ⟨C.length - (i + 1), by omega, i + 1, rfl, hlt, (hE.add _).set (by omega) _, by omega, B6, hB6, hro6, a60, a61, by rw [htk]; exact hO2, hs1⟩
            · simp [c_ref1_Crash_l14, h4, h11, cg0, h10, h8, hk1, hk2, hk3, hlt, kk0, kk1, zb, z6, cB, a60, a61, hkS, hB, hro, hat0, natOf_int, hbG, cb, ht, hks]
              exact ⟨C.length - (i + 1), by omega, i + 1, rfl, hlt, (hE.add _).set (by omega) _, by omega, B6, hB6, hro6, a60, a61, by rw [htk]; exact hO2, hs1⟩
      · obtain rfl : i = C.length := by omega
        simp [c_ref1_Crash_l14, h4, h11, cg0, h10, h8, cB, a60, a61, cg2, g2]
        exact ⟨(E0.trans hE).set (by omega) _, _, _, rfl, .inl ((hO.set (by omega) _).low (by omega)), OwnZ.nil, fun b _ => notIn_nil⟩
  · have hok' : crOk (S, C) at_ = false := by simpa using hok
    by_cases hd : dOk (S, C) = true
    · by_cases ha : at_ < 0
      · simp [← hG0, x1, hmay, hd, c0, c2, f2, ha, crR, crE, hok']
        exact ⟨bad _, OwnD.nil⟩
      · have ha2 : 64 < at_ := by simp [crOk, hd] at hok'; omega
        simp [← hG0, x1, hmay, hd, c0, c2, f2, ha, ha2, crR, crE, hok']
        exact ⟨bad _, OwnD.nil⟩
    · have hd' : dOk (S, C) = false := by simpa using hd
      simp [← hG0, x1, hmay, hd', c0, c2, f2, crR, crE, hok']
      exact ⟨bad _, OwnD.nil⟩
end Go.AM
end TextR6Za
section TextR6Zb
/- Contracts: what every program answers that is a disk. -/
namespace Go.AM
open Go.Proofs
set_option linter.unusedVariables false
set_option linter.unusedSimpArgs false
set_option maxRecDepth 100000
attribute [-simp] ByteArray.size_eq_zero_iff
theorem Rows.sliceN {α : Type} {enc : α → List Value} {sz n : Nat} {H : Heap} {v : Value} {xs : List α} (h : Rows enc sz H v xs) (hn : xs.length = n) : ∃ p c, v = .slice p n c := by
  obtain ⟨p, c, e⟩ := h.slice; exact ⟨p, c, by rw [e, hn]⟩
def nilB : Blk := rowBlk 2 [.slice none 0 0, .slice none 0 0]
def bx (s c : Value) : Blk := (nilB.put 0 s).put 1 c
theorem bx_fold (s c : Value) : ((rowBlk 2 [.slice none 0 0, .slice none 0 0]).put 0 s).put 1 c = bx s c := rfl
theorem nilB_fold : rowBlk 2 [.slice none 0 0, .slice none 0 0] = nilB := rfl
@[simp] theorem at_bx (s c : Value) (o : Nat) : (bx s c).at_ o = if o = 1 then some c else if o = 0 then some s else nilB.at_ o := rfl
@[simp] theorem ro_bx (s c : Value) : (bx s c).ro = false := rfl
/-- A box for a disk behind a heap. -/
def bxH (G : Heap) (s c : Value) : Heap := (G.add (rowBlk 2 [.slice none 0 0, .slice none 0 0])).set G.next (some (((rowBlk 2 [.slice none 0 0, .slice none 0 0]).put 0 s).put 1 c))
theorem bxH_ext (G : Heap) (s c : Value) : Ext G (bxH G s c) := ((Ext.refl G).add _).set (Nat.le_refl _) _
theorem bxH_next (G : Heap) (s c : Value) : (bxH G s c).next = G.next + 1 := rfl
theorem bxH_blk (G : Heap) (s c : Value) : (bxH G s c).blk G.next = some (((rowBlk 2 [.slice none 0 0, .slice none 0 0]).put 0 s).put 1 c) := by simp [bxH]
theorem bxH_eq (G : Heap) (s c : Value) : (G.add (rowBlk 2 [.slice none 0 0, .slice none 0 0])).set G.next (some (((rowBlk 2 [.slice none 0 0, .slice none 0 0]).put 0 s).put 1 c)) = bxH G s c := rfl
/-- Block k holds a disk's two fields. -/
structure BoxD (G : Heap) (k : Nat) (s c : Value) : Prop where
  lt : k < G.next
  is : ∃ B, G.blk k = some B ∧ B.ro = false ∧ B.at_ 0 = some s ∧ B.at_ 1 = some c
theorem BoxD.ext {G G' : Heap} {k : Nat} {s c : Value} (h : BoxD G k s c) (hE : Ext G G') : BoxD G' k s c :=
  ⟨by have := hE.next; have := h.lt; omega, by rw [hE.blk _ h.lt]; exact h.is⟩
theorem BoxD.c0 {G : Heap} {k : Nat} {s c : Value} (h : BoxD G k s c) : G.cell k 0 = some s := by
  obtain ⟨B, h1, _, h2, _⟩ := h.is; simp only [Heap.cell, h1, h2]
theorem BoxD.c1 {G : Heap} {k : Nat} {s c : Value} (h : BoxD G k s c) : G.cell k 1 = some c := by
  obtain ⟨B, h1, _, _, h2⟩ := h.is; simp only [Heap.cell, h1, h2]
theorem BoxD.new (G : Heap) (s c : Value) : BoxD (bxH G s c) G.next s c := ⟨by simp [bxH], _, bxH_blk G s c, rfl, rfl, rfl⟩
theorem BoxD.set {G : Heap} {k : Nat} (hk : k < G.next) (s c : Value) : BoxD (G.set k (some (((rowBlk 2 [.slice none 0 0, .slice none 0 0]).put 0 s).put 1 c))) k s c := ⟨hk, _, blk_set_self _ _ _, rfl, rfl, rfl⟩
/-! ### what the steps answer -/
theorem all64_set {S : List ByteArray} (h : ∀ s ∈ S, s.size = 64) (k : Nat) {t : ByteArray} (ht : t.size = 64) : ∀ s ∈ S.set k t, s.size = 64 := fun s hs => by
  rcases List.mem_or_eq_of_mem_set hs with h' | rfl
  · exact h s h'
  · exact ht
theorem dOk_mk {S : List ByteArray} {C : List Img} (h1 : S.length = 394) (h2 : C.length ≤ 512) (h3 : ∀ s ∈ S, s.size = 64) (h4 : ∀ w ∈ C, wOk w = true) : dOk (S, C) = true := by
  simp only [dOk, Bool.and_eq_true, decide_eq_true_eq, List.all_eq_true]
  exact ⟨⟨⟨h1, h2⟩, h3⟩, h4⟩
theorem wOk_mk {k : Nat} {t : ByteArray} (hk : k < 394) (ht : t.size = 64) : wOk ((k : Int), t) = true := by simp [wOk, ht]; omega
theorem newD_ok : dOk newD = true := dOk_mk (by simp [nSec_eq]) (by simp) (fun s hs => by rw [(List.mem_replicate.1 hs).2, zer_size]) (fun w hw => by cases hw)
theorem newD_len : newD.1.length = 394 := by simp [newD, nSec_eq]
theorem do_write {d : Dk} (hd : dOk d = true) {k : Nat} {t : ByteArray} (hk : k < 394) (ht : t.size = 64) (hc : d.2.length < 512) :
    doR d (false, (k : Int), t) = (d.1, d.2 ++ [((k : Int), t)]) ∧ doE d (false, (k : Int), t) = 0 ∧ dOk (d.1, d.2 ++ [((k : Int), t)]) = true := by
  obtain ⟨h1, h2, h3, h4⟩ := dOk_len hd
  have hw := wOk_mk hk ht
  have e : doO d (false, (k : Int), t) = some (d.1, d.2 ++ [((k : Int), t)]) := by
    unfold doO; rw [if_pos hd, if_pos rfl, if_pos ⟨hw, by omega⟩]
  refine ⟨by rw [doR, e]; rfl, by rw [doE, e]; rfl, dOk_mk h1 (by simp; omega) h3 fun w hw2 => ?_⟩
  rcases List.mem_append.1 hw2 with h | h
  · exact h4 w h
  · rw [List.mem_singleton.1 h]; exact hw
theorem applyW_64 : ∀ (C : List Img) (S : List ByteArray), (∀ s ∈ S, s.size = 64) → (∀ w ∈ C, wOk w = true) → ∀ s ∈ applyW S C, s.size = 64
  | [], S, h, _ => h
  | w :: C, S, h, hw => by
    obtain ⟨k, _, _, hs⟩ := wOk_of (hw w (by simp))
    exact applyW_64 C _ (all64_set h _ hs) fun x hx => hw x (by simp [hx])
theorem do_flush {d : Dk} (hd : dOk d = true) : doR d (true, 0, ⟨#[]⟩) = (applyW d.1 d.2, []) ∧ doE d (true, 0, ⟨#[]⟩) = 0 ∧ dOk (applyW d.1 d.2, []) = true := by
  obtain ⟨h1, h2, h3, h4⟩ := dOk_len hd
  have e : doO d (true, 0, ⟨#[]⟩) = some (applyW d.1 d.2, []) := by
    unfold doO; rw [if_pos hd, if_neg (by simp), if_pos ⟨rfl, rfl⟩]
  exact ⟨by rw [doR, e]; rfl, by rw [doE, e]; rfl, dOk_mk (by rw [applyW_len]; exact h1) (by simp) (applyW_64 _ _ h3 h4) (fun w hw => by cases hw)⟩
theorem tornR_size {old new : ByteArray} {at_ : Int} (h1 : old.size = 64) (h2 : new.size = 64) (h3 : 0 ≤ at_ ∧ at_ ≤ 64) : (tornR old new at_).size = 64 := by
  rw [tornR, if_pos ⟨⟨h1, h2⟩, h3⟩, size_append, size_extract, size_extract]; omega
theorem crN_64 {keep : ByteArray} {torn at_ : Int} {S : List ByteArray} {C : List Img} (hl : S.length = 394) (h : ∀ s ∈ S, s.size = 64) (hw : ∀ w ∈ C, wOk w = true) (ha : 0 ≤ at_ ∧ at_ ≤ 64) : ∀ i, ∀ s ∈ crN keep torn at_ S C i, s.size = 64
  | 0 => h
  | i + 1 => by
    have ih := crN_64 (keep := keep) (torn := torn) hl h hw ha i
    simp only [crN]
    cases hc : C[i]? with
    | none => exact ih
    | some w =>
      simp only
      obtain ⟨k, hk, hk2, hs⟩ := wOk_of (hw w (List.mem_of_getElem? hc))
      unfold crStep
      have hlen := crN_len keep torn at_ S C i
      split
      · refine all64_set ih _ (tornR_size ?_ hs ha)
        rw [hk, Int.toNat_natCast, List.getElem?_eq_getElem (by omega)]
        exact ih _ (List.getElem_mem _)
      · split
        · exact all64_set ih _ hs
        · exact ih
theorem do_crash {d : Dk} (hd : dOk d = true) (keep : ByteArray) (torn : Int) {at_ : Int} (ha : 0 ≤ at_ ∧ at_ ≤ 64) :
    crR d keep torn at_ = (crN keep torn at_ d.1 d.2 d.2.length, []) ∧ crE d at_ = 0 ∧ dOk (crN keep torn at_ d.1 d.2 d.2.length, []) = true := by
  obtain ⟨h1, h2, h3, h4⟩ := dOk_len hd
  have e : crOk d at_ = true := by simp [crOk, hd, ha]
  exact ⟨by rw [crR, if_pos e], by rw [crE, if_pos e], dOk_mk (by rw [crN_len]; exact h1) (by simp) (crN_64 h1 h3 h4 ha _) (fun w hw => by cases hw)⟩
theorem do_read {d : Dk} (hd : dOk d = true) {k : Nat} (hk : k < 394) : rdD d (k : Int) = lookD d (k : Int) ∧ rdE d (k : Int) = 0 := by
  have e : rdOk d (k : Int) = true := by simp [rdOk, hd]; omega
  exact ⟨by rw [rdD, if_pos e], by rw [rdE, if_pos e]⟩
/-- A disk that is laid in a box behind what made it. -/
theorem stage1 {G : Heap} {v : Value} {d : Dk} (h : DkR G v d) (hl : d.1.length = 394) {n : Nat} (hn : d.2.length = n) :
    ∃ p k q m A, v = .agg #[.slice p 394 k, .slice q n m] ∧ A = (G.add (rowBlk 2 [.slice none 0 0, .slice none 0 0])).set G.next (some (((rowBlk 2 [.slice none 0 0, .slice none 0 0]).put 0 (.slice p 394 k)).put 1 (.slice q n m))) ∧ A.next = G.next + 1 ∧ Ext G A ∧
      ∀ A', Ext A A' → A'.cell G.next 0 = some (.slice p 394 k) ∧ A'.cell G.next 1 = some (.slice q n m) ∧ DkR A' (.agg #[.slice p 394 k, .slice q n m]) d := by
  obtain ⟨s, c, rfl, hs, hc⟩ := h
  obtain ⟨p, k, rfl⟩ := hs.sliceN hl
  obtain ⟨q, m, rfl⟩ := hc.sliceN hn
  refine ⟨p, k, q, m, _, rfl, rfl, rfl, bxH_ext G _ _, fun A' hE => ?_⟩
  have hb := (BoxD.new G (.slice p 394 k) (.slice q n m)).ext hE
  exact ⟨hb.c0, hb.c1, _, _, rfl, hs.ext ((bxH_ext G _ _).trans hE), hc.ext ((bxH_ext G _ _).trans hE)⟩
/-- .. in a box that stood ahead of it. -/
theorem stage2 {A G : Heap} {v : Value} {d : Dk} (hE : Ext (A.add (rowBlk 2 [.slice none 0 0, .slice none 0 0])) G) (h : OwnD (A.next + 1) G v d) (hl : d.1.length = 394) {n : Nat} (hn : d.2.length = n) :
    ∃ p k q m A2, v = .agg #[.slice p 394 k, .slice q n m] ∧ G.blk A.next = some (rowBlk 2 [.slice none 0 0, .slice none 0 0]) ∧ (∀ o, G.cell A.next o = (rowBlk 2 [.slice none 0 0, .slice none 0 0]).at_ o) ∧ A2 = G.set A.next (some (((rowBlk 2 [.slice none 0 0, .slice none 0 0]).put 0 (.slice p 394 k)).put 1 (.slice q n m))) ∧ A2.next = G.next ∧ A.next < A2.next ∧ Ext A A2 ∧
      ∀ A', Ext A2 A' → A'.cell A.next 0 = some (.slice p 394 k) ∧ A'.cell A.next 1 = some (.slice q n m) ∧ DkR A' (.agg #[.slice p 394 k, .slice q n m]) d := by
  have hn2 := hE.next
  simp at hn2
  have h0 := h
  obtain ⟨s, c, rfl, hs, hc⟩ := h.dk
  obtain ⟨p, k, rfl⟩ := hs.sliceN hl
  obtain ⟨q, m, rfl⟩ := hc.sliceN hn
  have hbk : G.blk A.next = some (rowBlk 2 [.slice none 0 0, .slice none 0 0]) := by rw [hE.blk _ (by simp), blk_add, if_pos rfl]
  refine ⟨p, k, q, m, _, rfl, hbk, fun o => by simp only [Heap.cell, hbk], rfl, rfl, by simp; omega, (((Ext.refl A).add _).trans hE).set (Nat.le_refl _) _, fun A' hE' => ?_⟩
  have hb := (BoxD.set (show A.next < G.next by omega) (.slice p 394 k) (.slice q n m)).ext hE'
  refine ⟨hb.c0, hb.c1, ?_⟩
  have hfr : OwnD (A.next + 1) (G.set A.next (some (((rowBlk 2 [.slice none 0 0, .slice none 0 0]).put 0 (.slice p 394 k)).put 1 (.slice q n m)))) (.agg #[.slice p 394 k, .slice q n m]) d := h0.frame (by simp) fun b h1 h2 _ => blk_set_ne (by omega)
  exact hfr.dk.ext hE'
theorem mayD_ok {v : Value} {d : Dk} {H : Heap} (h : DkR H v d) : call K f_disk_May [v] H = some (.bool (dOk d), H) := by
  obtain ⟨s, c, rfl, h1, h2⟩ := h; exact dskMay_ok s c d H h1 h2
theorem rmayD_ok {v : Value} {d : Dk} {H : Heap} (h : DkR H v d) : call K f_ref1_DiskMay [v] H = some (.bool (dOk d), H) := by
  obtain ⟨s, c, rfl, h1, h2⟩ := h; exact rdskMay_ok s c d H h1 h2
theorem readD_ok {v : Value} {d : Dk} {H : Heap} (h : DkR H v d) (a : Int) : call K f_disk_Read [v, .int .i64 a] H = some (.tuple #[.string (rdD d a), .int .i64 (rdE d a)], H) := by
  obtain ⟨s, c, rfl, h1, h2⟩ := h; exact read_ok s c d a H h1 h2
theorem rreadD_ok {v : Value} {d : Dk} {H : Heap} (h : DkR H v d) (a : Int) : call K f_ref1_Read [v, .int .i64 a] H = some (.tuple #[.string (rdD d a), .int .i64 (rdE d a)], H) := by
  obtain ⟨s, c, rfl, h1, h2⟩ := h; exact rread_ok s c d a H h1 h2
theorem crN_one (keep : ByteArray) (at_ : Int) (S : List ByteArray) (w : Img) : crN keep (-1) at_ S [w] 1 = if oddK keep 0 = true then S.set w.1.toNat w.2 else S := by
  rw [show (1 : Nat) = 0 + 1 from rfl, crN_succ _ _ _ _ _ (by simp), crStep, if_neg (by simp)]; rfl
/-- A sector's cell. -/
theorem DkR.sec {H : Heap} {p : Option Addr} {n k : Nat} {c : Value} {d : Dk} (h : DkR H (.agg #[.slice p n k, c]) d) {i : Nat} (hi : i < d.1.length) : ∃ b o, p = some ⟨b, o, none⟩ ∧ b < H.next ∧ H.cell b (o + i) = some (.string d.1[i]) := by
  obtain ⟨s', c', e, h1, h2⟩ := h
  cases e
  obtain ⟨b, o, h3, h4, h5⟩ := h1.at1 hi
  exact ⟨b, o, h3, h4, h5⟩
theorem newD_w (t : ByteArray) : (newD.1, newD.2 ++ [((3 : Int), t)]).2.length = 1 := rfl
theorem awake2_ok (H : Heap) : call K f_law2_awake [] H = some (.bool true, H) := by
  refine of_wpf (open_pure rfl fc_law2_awake rfl (Nat.le_of_ble_eq_true rfl) ?_)
  obtain ⟨_, G1, c1, E1, D1⟩ := new_ok H.roAll
  obtain ⟨p1, k1, q1, m1, A1, rfl, hA1, n1, X1, F1⟩ := stage1 D1 newD_len (n := 0) rfl
  obtain ⟨a10, a11, d1⟩ := F1 A1 (Ext.refl _)
  -- a
  obtain ⟨f1, f2, f3⟩ : doR newD (false, 3, sec 7) = (newD.1, newD.2 ++ [((3 : Int), sec 7)]) ∧ doE newD (false, 3, sec 7) = 0 ∧ dOk (newD.1, newD.2 ++ [((3 : Int), sec 7)]) = true := do_write newD_ok (k := 3) (t := sec 7) (by omega) (sec_size 7) (by decide)
  obtain ⟨_, G2, c2, E2, _, rfl, o2⟩ := do_ok _ newD false 3 (sec 7) _ (d1.ext ((Ext.refl A1).add (rowBlk 2 [.slice none 0 0, .slice none 0 0])))
  rw [f1] at o2
  rw [f2] at c2
  obtain ⟨p2, k2, q2, m2, A2, rfl, b2, cb2, hA2, n2, l2, X2, F2⟩ := stage2 E2 o2 newD_len (n := 1) rfl
  obtain ⟨a20, a21, d2⟩ := F2 A2 (Ext.refl _)
  -- b
  obtain ⟨g1, g2, g3⟩ := do_flush f3
  obtain ⟨_, G3, c3, E3, _, rfl, o3⟩ := do_ok _ _ true 0 ⟨#[]⟩ _ d2
  rw [g1] at o3
  rw [g2] at c3
  have l3 : (applyW (newD.1, newD.2 ++ [((3 : Int), sec 7)]).1 (newD.1, newD.2 ++ [((3 : Int), sec 7)]).2).length = 394 := (applyW_len _ _).trans newD_len
  obtain ⟨p3, k3, q3, m3, A3, rfl, hA3, n3, X3, F3⟩ := stage1 o3.dk l3 (n := 0) rfl
  obtain ⟨a20', a21', d2'⟩ := F2 A3 (E3.trans X3)
  -- c
  obtain ⟨i1, i2, i3⟩ := do_crash f3 ⟨#[]⟩ (-1) (at_ := 0) ⟨by omega, by omega⟩
  obtain ⟨_, G4, c4, E4, _, rfl, o4⟩ := crash_ok _ _ ⟨#[]⟩ (-1) 0 _ d2'
  rw [i1] at o4
  rw [i2] at c4
  obtain ⟨p4, k4, q4, m4, A4, rfl, hA4, n4, X4, F4⟩ := stage1 o4.dk ((crN_len _ _ _ _ _ _).trans newD_len) (n := 0) rfl
  obtain ⟨a204, a214, d24⟩ := F2 A4 ((E3.trans X3).trans (E4.trans X4))
  -- x
  have r1 := readD_ok d24 3
  -- y
  obtain ⟨j1, j2, j3⟩ := do_crash f3 ⟨#[1]⟩ (-1) (at_ := 0) ⟨by omega, by omega⟩
  obtain ⟨_, G5, c5, E5, _, rfl, o5⟩ := crash_ok _ _ ⟨#[1]⟩ (-1) 0 _ d24
  rw [j1] at o5
  rw [j2] at c5
  obtain ⟨p5, k5, q5, m5, A5, rfl, hA5, n5, X5, F5⟩ := stage1 o5.dk ((crN_len _ _ _ _ _ _).trans newD_len) (n := 0) rfl
  have E25 := (E3.trans X3).trans ((E4.trans X4).trans (E5.trans X5))
  obtain ⟨a15, a15', d15⟩ := F1 A5 (X2.trans E25)
  have r2 := readD_ok d15 394
  -- the step that may not be
  obtain ⟨_, G6, c6, E6, v6, rfl, o6⟩ := do_ok _ newD false 0 ⟨#[]⟩ _ d15
  have e6 : doO newD (false, 0, ⟨#[]⟩) = none := by
    unfold doO; rw [if_pos newD_ok, if_pos rfl, if_neg]
    rintro ⟨h, _⟩; revert h; decide
  rw [doE, e6] at c6
  rw [doR, e6] at o6
  obtain ⟨s6, t6, rfl, S6, T6⟩ := o6.dk
  obtain ⟨p6, k6, rfl⟩ := S6.sliceN (n := 0) rfl
  obtain ⟨q6, m6, rfl⟩ := T6.sliceN (n := 0) rfl
  obtain ⟨A6, hA6⟩ : ∃ A6, A6 = bxH G6 (.slice p6 0 k6) (.slice q6 0 m6) := ⟨_, rfl⟩
  have X6 : Ext G6 A6 := by rw [hA6]; exact bxH_ext _ _ _
  have E26 := E25.trans (E6.trans X6)
  obtain ⟨z1, z1', y1⟩ := F1 A6 (X2.trans E26)
  obtain ⟨z2, z2', y2⟩ := F2 A6 E26
  obtain ⟨z3, z3', y3⟩ := F3 A6 ((E4.trans X4).trans ((E5.trans X5).trans (E6.trans X6)))
  obtain ⟨z4, z4', y4⟩ := F4 A6 ((E5.trans X5).trans (E6.trans X6))
  obtain ⟨z5, z5', y5⟩ := F5 A6 (E6.trans X6)
  have e1 := E1.next; have e2 := E2.next; have e3 := E3.next; have e4 := E4.next; have e5 := E5.next; have e6 := E6.next
  have sd1 := sameDisk_ok _ _ _ _ A6 y4 y1
  have sd2 := sameDisk_ok _ _ _ _ A6 y5 y3
  have my := mayD_ok y1
  rw [newD_ok] at my
  have w0 : crN ⟨#[]⟩ (-1) 0 (newD.1, newD.2 ++ [((3 : Int), sec 7)]).1 (newD.1, newD.2 ++ [((3 : Int), sec 7)]).2 (newD.1, newD.2 ++ [((3 : Int), sec 7)]).2.length = newD.1 := crN_one _ _ _ _
  have w1 : crN ⟨#[1]⟩ (-1) 0 (newD.1, newD.2 ++ [((3 : Int), sec 7)]).1 (newD.1, newD.2 ++ [((3 : Int), sec 7)]).2 (newD.1, newD.2 ++ [((3 : Int), sec 7)]).2.length = newD.1.set 3 (sec 7) := crN_one _ _ _ _
  have w2 : applyW (newD.1, newD.2 ++ [((3 : Int), sec 7)]).1 (newD.1, newD.2 ++ [((3 : Int), sec 7)]).2 = newD.1.set 3 (sec 7) := rfl
  rw [w0, decide_eq_true (show (newD.1, []) = newD from rfl)] at sd1
  rw [w1, w2, decide_eq_true rfl] at sd2
  rw [w2] at y3
  obtain ⟨b, o, hp3, hb, hc3⟩ := y3.sec (i := 3) (by simp [newD, nSec_eq])
  have hs3 : (newD.1.set 3 (sec 7), ([] : List Img)).1[3]'(by simp [newD, nSec_eq]) = sec 7 := by simp
  rw [hs3] at hc3
  obtain ⟨u1, u2⟩ : rdD (newD.1, newD.2 ++ [((3 : Int), sec 7)]) 3 = lookD (newD.1, newD.2 ++ [((3 : Int), sec 7)]) 3 ∧ rdE (newD.1, newD.2 ++ [((3 : Int), sec 7)]) 3 = 0 := do_read f3 (k := 3) (by omega)
  have u3 : lookD (newD.1, newD.2 ++ [((3 : Int), sec 7)]) 3 = sec 7 := by rw [lookD, lookC_snoc]; rfl
  have u4 : rdE newD 394 = 200 := by rw [rdE, if_neg]; simp [rdOk]
  rw [u1, u2, u3] at r1
  rw [u4] at r2
  simp at c6
  rw [bxH] at hA6
  subst hp3
  have zz1 : ¬ G1.next = A1.next := by omega
  simp [natOf_int, sector_ok, c1, ← hA1, a10, a11, c2, run_regd_tr, finD_some, Chk, wanted, zz1, b2, cb2, ← hA2, a20, a21, c3, ← hA3, a20', a21', c4, ← hA4, r1, c5, ← hA5, r2, a15, a15', c6, ← hA6, a204, a214, z1, z1', z2, z2', z3, z3', z4, z4', z5, z5', hc3, my, sd1, sd2]
end Go.AM
end TextR6Zb
