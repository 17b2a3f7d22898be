/- Contracts: disks compared, read; sectors torn, made. -/
import Derived.Test.YtiiliffoclejlaaR6V
namespace Go.AM
open Go.Proofs
set_option linter.unusedVariables false
set_option linter.unusedSimpArgs false
set_option maxRecDepth 100000
attribute [-simp] ByteArray.size_eq_zero_iff
theorem rcopyD_ok (v : Value) (d : Dk) (H : Heap) (h : DkR H v d) (h1 : (d.1.length + 2) * 16 ≤ 140737488355328) (h2 : (d.2.length + 2) * 24 ≤ 140737488355328) : wpf (call K f_ref1_CopyDisk [v] H) fun r H' => Ext H H' ∧ OwnD H.next H' r d := by
  obtain ⟨s, c, rfl, hs, hc⟩ := h
  obtain ⟨S, C⟩ := d
  simp only at hs hc h1 h2
  refine open_plain rfl fc_ref1_CopyDisk rfl (Nat.le_of_ble_eq_true rfl) ?_
  obtain ⟨ps, ks, rfl⟩ := hs.slice
  obtain ⟨pc, kc, rfl⟩ := hc.slice
  obtain ⟨G0, hG0⟩ : ∃ G0, G0 = (((H.add (rowBlk 2 [.slice ps S.length ks, .slice pc C.length kc])).add (rowBlk 2 [.slice none 0 0, .slice none 0 0])).add (rowBlk 1 [])).add (rowBlk 2 []) := ⟨_, rfl⟩
  have E0 : Ext H G0 := by subst hG0; exact ((((Ext.refl H).add _).add _).add _).add _
  have n0 : G0.next = H.next + 4 := by subst hG0; simp
  obtain ⟨v1, G1, c1, E1, o1, f1⟩ := empty_app (n0 := H.next) (b := H.next + 1 + 1) (hs.ext E0) encS_len encS_one (bytes := 16) (by omega) (by omega) (by omega) (by omega)
  obtain ⟨v2, G2, c2, E2, o2, f2⟩ := empty_app (n0 := H.next) (b := H.next + 1 + 1 + 1) ((hc.ext E0).ext E1) encI_len encI_one (bytes := 24) (by omega) (by have := E1.next; omega) (by omega) (by omega)
  have k1 : G1.cell H.next 1 = some (.slice pc C.length kc) := by rw [E1.cell (by omega)]; subst hG0; simp; omega
  have k0 : G0.cell H.next 1 = some (.slice pc C.length kc) := by subst hG0; simp; omega
  have b1 : G2.blk (H.next + 1) = some (rowBlk 2 [.slice none 0 0, .slice none 0 0]) := by rw [E2.blk _ (by have := E1.next; omega), E1.blk _ (by omega)]; subst hG0; simp
  have q2 : G2.cell (H.next + 1) = (rowBlk 2 [.slice none 0 0, .slice none 0 0]).at_ := by funext o; simp only [Heap.cell, b1]
  have e1 := E1.next; have e2 := E2.next
  obtain ⟨p1, m1, hv1⟩ := (o1.rows encS_len).slice
  obtain ⟨p2, m2, hv2⟩ := (o2.rows encI_len).slice
  rw [hv1] at c1
  rw [hv2] at c2
  have x2 : ¬ H.next = H.next + 1 + 1 := by omega
  have x3 : ¬ H.next = H.next + 1 + 1 + 1 := by omega
  simp [run_regd_tr, finD_some, Chk, wanted, x2, x3, ← hG0, c1, k0, k1, c2, b1, q2]
  have hE : Ext H (G2.set (H.next + 1) (some (((rowBlk 2 [.slice none 0 0, .slice none 0 0]).put 0 (.slice p1 S.length m1)).put 1 (.slice p2 C.length m2)))) := (E0.trans (E1.trans E2)).set (by omega) _
  refine ⟨hE, .slice p1 S.length m1, .slice p2 C.length m2, rfl, ?_, ?_, ?_⟩
  · rw [← hv1]
    exact (o1.ext E2).frame (by simp) fun b _ _ hb => blk_set_ne fun e => hb (by subst e; exact f1 _ (by omega) (by omega))
  · rw [← hv2]
    exact o2.frame (by simp) fun b _ _ hb => blk_set_ne fun e => hb (by subst e; exact f2 _ (by omega) (by omega))
  · intro b hb
    rw [← hv1] at hb
    rw [← hv2]
    refine f2 b (Nat.lt_of_not_le fun h => hb (o1.below.notIn h)) fun e => hb ?_
    subst e
    exact f1 _ (by omega) (by omega)
theorem sameWrites_ok (va vb : Value) (xs ys : List Img) (H : Heap) (ha : Imgs H va xs) (hb : Imgs H vb ys) : call K f_law0_SameWrites [va, vb] H = some (.bool (decide (xs = ys)), H) := by
  obtain ⟨p, c, rfl⟩ := ha.slice
  obtain ⟨q, d, rfl⟩ := hb.slice
  have hl := ha.lim
  refine of_wpf (open_pure rfl fc_law0_SameWrites rfl (Nat.le_of_ble_eq_true rfl) ?_)
  by_cases hlen : xs.length = ys.length
  · simp [hlen]
    refine wp_nxt (wp_for (fun k e H' => ∃ i, k = ys.length - i ∧ i ≤ ys.length ∧ H' = H.roAll ∧ e 5 = .int .i64 (i : Int) ∧ e 0 = .slice p ys.length c ∧ e 1 = .slice q ys.length d ∧ xs.take i = ys.take i) ys.length ⟨0, by simp⟩ ?_)
    rintro k e H' ⟨i, rfl, hi, rfl, h5, h0, h1, heq⟩
    by_cases hlt2 : i < ys.length
    · have hlt : i < xs.length := by omega
      obtain ⟨b, o, rfl, hb1, k0, k1⟩ := ha.at2 hlt
      obtain ⟨b2, o2, rfl, hb2, j0, j1⟩ := hb.at2 hlt2
      have hst := take_succ_eq hlt hlt2
      have hne : xs[i] ≠ ys[i] → xs ≠ ys := fun hn he => hn (by subst he; rfl)
      generalize xs[i] = x at *
      generalize ys[i] = y at *
      simp at k0 k1 j0 j1
      by_cases he : x = y
      · subst he
        simp [c_law0_SameWrites_l8, h5, h0, h1, hlt, hlt2, k0, k1, j0, j1]
        exact ⟨ys.length - (i + 1), by omega, i + 1, rfl, hlt2, wrap_succ (by omega), hst.2 ⟨heq, rfl⟩⟩
      · have hd0 : ¬ (x.1 = y.1 ∧ x.2 = y.2) := fun hh => he (Prod.ext hh.1 hh.2)
        have hd : ¬ x.1 = y.1 ∨ ¬ x.2 = y.2 := by simpa only [Classical.not_and_iff_not_or_not] using hd0
        have hf := hne he
        simp [c_law0_SameWrites_l8, h5, h0, h1, hlt, hlt2, k0, k1, j0, j1, hd, hf]
        
    · have : i = ys.length := by omega
      subst this
      simp [c_law0_SameWrites_l8, h5, h0]
      rw [List.take_length, ← hlen, List.take_length] at heq
      exact heq
  · simp [hlen]
    intro h
    subst h
    exact hlen rfl
theorem sameDisk_ok (va vb : Value) (a b : Dk) (H : Heap) (ha : DkR H va a) (hb : DkR H vb b) : call K f_law0_SameDisk [va, vb] H = some (.bool (decide (a = b)), H) := by
  obtain ⟨s, c, rfl, hs, hc⟩ := ha
  obtain ⟨s', c', rfl, hs', hc'⟩ := hb
  obtain ⟨S, C⟩ := a
  obtain ⟨S', C'⟩ := b
  refine of_wpf (open_pure rfl fc_law0_SameDisk rfl (Nat.le_of_ble_eq_true rfl) ?_)
  have E : ∀ X Y, Ext H.roAll ((H.roAll.add X).add Y) := fun X Y => ((Ext.refl _).add _).add _
  have c1 := fun X Y => sameTexts_ok s s' S S' _ (hs.roAll.ext (E X Y)) (hs'.roAll.ext (E X Y))
  have c2 := fun X Y => sameWrites_ok c c' C C' _ (hc.roAll.ext (E X Y)) (hc'.roAll.ext (E X Y))
  obtain ⟨p, k, rfl⟩ := hs.slice
  obtain ⟨p, k, rfl⟩ := hs'.slice
  obtain ⟨p, k, rfl⟩ := hc.slice
  obtain ⟨p, k, rfl⟩ := hc'.slice
  have x1 : ¬ H.next = H.next + 1 := by omega
  simp only at c1 c2
  by_cases h : S = S'
  · subst h; simp [c1, c2, x1]
  · simp [c1, c2, h, x1]
def tornR (old new : ByteArray) (at_ : Int) : ByteArray := if (old.size = 64 ∧ new.size = 64) ∧ 0 ≤ at_ ∧ at_ ≤ 64 then new.extract 0 at_.toNat ++ old.extract at_.toNat 64 else ⟨#[]⟩
def tornE (old new : ByteArray) (at_ : Int) : Int := if (old.size = 64 ∧ new.size = 64) ∧ 0 ≤ at_ ∧ at_ ≤ 64 then 0 else 100
theorem torn_ok (old new : ByteArray) (at_ : Int) (H : Heap) : call K f_pair_Torn [.string old, .string new, .int .i64 at_] H = some (.tuple #[.string (tornR old new at_), .int .i64 (tornE old new at_)], H) := by
  refine of_wpf (open_pure rfl fc_pair_Torn rfl (Nat.le_of_ble_eq_true rfl) ?_)
  by_cases h : (old.size = 64 ∧ new.size = 64) ∧ 0 ≤ at_ ∧ at_ ≤ 64
  · rw [tornR, tornE, if_pos h, if_pos h]
    obtain ⟨⟨h1, h2⟩, h3, h4⟩ := h
    obtain ⟨k, rfl⟩ := Int.eq_ofNat_of_zero_le h3
    have k64 : k ≤ 64 := by omega
    have k1 : ¬ ((k : Int) < 0) := by omega
    have k2 : ¬ ((64 : Int) < (k : Int)) := by omega
    have a1 : slsV new none (some (.int .i64 (k : Int))) = some (.string (new.extract 0 k)) := by simp [slsV, bound, h2, k64]
    have a2 : slsV old (some (.int .i64 (k : Int))) none = some (.string (old.extract k 64)) := by simp [slsV, bound, h1, k64]
    have a3 : binV K.P .add tyStr (.string (new.extract 0 k)) (.string (old.extract k 64)) = some (.string (new.extract 0 k ++ old.extract k 64)) := binV_sadd _ _ _ _ (by rw [size_extract, size_extract]; omega)
    simp [h1, h2, k1, k2, a1, a2, a3]
  · rw [tornR, tornE, if_neg h, if_neg h]
    by_cases h1 : old.size = 64
    · by_cases h2 : new.size = 64
      · by_cases h3 : at_ < 0
        · simp [h1, h2, h3]
        · have h4 : (64 : Int) < at_ := by omega
          simp [h1, h2, h3, h4]
      · have h2' : ¬ (new.size : Int) = 64 := by omega
        simp [h1, h2']
    · have h1' : ¬ (old.size : Int) = 64 := by omega
      simp [h1']
theorem rtorn_ok (old new : ByteArray) (at_ : Int) (H : Heap) : call K f_ref1_Torn [.string old, .string new, .int .i64 at_] H = some (.tuple #[.string (tornR old new at_), .int .i64 (tornE old new at_)], H) := by
  refine of_wpf (open_pure rfl fc_ref1_Torn rfl (Nat.le_of_ble_eq_true rfl) ?_)
  by_cases h : (old.size = 64 ∧ new.size = 64) ∧ 0 ≤ at_ ∧ at_ ≤ 64
  · rw [tornR, tornE, if_pos h, if_pos h]
    obtain ⟨⟨h1, h2⟩, h3, h4⟩ := h
    obtain ⟨k, rfl⟩ := Int.eq_ofNat_of_zero_le h3
    have k64 : k ≤ 64 := by omega
    have k1 : ¬ ((k : Int) < 0) := by omega
    have k2 : ¬ ((64 : Int) < (k : Int)) := by omega
    have a1 : slsV new none (some (.int .i64 (k : Int))) = some (.string (new.extract 0 k)) := by simp [slsV, bound, h2, k64]
    have a2 : slsV old (some (.int .i64 (k : Int))) none = some (.string (old.extract k 64)) := by simp [slsV, bound, h1, k64]
    have a3 : binV K.P .add tyStr (.string (new.extract 0 k)) (.string (old.extract k 64)) = some (.string (new.extract 0 k ++ old.extract k 64)) := binV_sadd _ _ _ _ (by rw [size_extract, size_extract]; omega)
    simp [h1, h2, k1, k2, a1, a2, a3]
  · rw [tornR, tornE, if_neg h, if_neg h]
    by_cases h1 : old.size = 64
    · by_cases h2 : new.size = 64
      · by_cases h3 : at_ < 0
        · simp [h1, h2, h3]
        · have h4 : (64 : Int) < at_ := by omega
          simp [h1, h2, h3, h4]
      · have h2' : ¬ (new.size : Int) = 64 := by omega
        simp [h1, h2']
    · have h1' : ¬ (old.size : Int) = 64 := by omega
      simp [h1']
theorem lookC_nil (at_ : Int) : lookC [] at_ = none := rfl
theorem lookC_snoc (c : List Img) (w : Img) (at_ : Int) : lookC (c ++ [w]) at_ = if w.1 = at_ then some w.2 else lookC c at_ := by
  unfold lookC
  rw [List.reverse_append]
  simp only [List.reverse_cons, List.reverse_nil, List.nil_append, List.singleton_append, List.find?_cons]
  by_cases h : w.1 = at_ <;> simp [h]
theorem rlook_ok (s c : Value) (d : Dk) (at_ : Int) (H : Heap) (hs : Strs H s d.1) (hc : Imgs H c d.2) (h0 : 0 ≤ at_ ∧ at_.toNat < d.1.length) : call K f_ref1_read [.agg #[s, c], .int .i64 at_] H = some (.string (lookD d at_), H) := by
  obtain ⟨S, C⟩ := d
  obtain ⟨p, k, rfl⟩ := hs.slice
  obtain ⟨q, m, rfl⟩ := hc.slice
  have hl1 := hs.lim; have hl2 := hc.lim
  refine of_wpf (open_pure rfl fc_ref1_read rfl (Nat.le_of_ble_eq_true rfl) ?_)
  simp only at hl1 hl2 hs hc h0 ⊢
  obtain ⟨G0, hG0⟩ : ∃ G0, G0 = H.roAll.add (rowBlk 2 [.slice p S.length k, .slice q C.length m]) := ⟨_, rfl⟩
  have E : Ext H.roAll G0 := by subst hG0; exact (Ext.refl H.roAll).add _
  have f0 : G0.cell H.next 0 = some (.slice p S.length k) := by subst hG0; simp
  have f1 : G0.cell H.next 1 = some (.slice q C.length m) := by subst hG0; simp
  have hs' := hs.roAll.ext E
  have hc' := hc.roAll.ext E
  have w0 : IntKind.i64.wrap ((C.length : Int) - 1) = (C.length : Int) - 1 := wrap_i64 (by omega) (by omega)
  obtain ⟨a, rfl⟩ := Int.eq_ofNat_of_zero_le h0.1
  have ha : a < S.length := by simpa using h0.2
  simp [← hG0, f1, w0]
  refine wp_nxt (wp_for (fun d e G => ∃ i : Nat, d = i ∧ i ≤ C.length ∧ G = G0 ∧ e 2 = .pointer (some ⟨H.next, 0, none⟩) ∧ e 1 = .int .i64 (a : Int) ∧ e 5 = .int .i64 ((i : Int) - 1) ∧ lookC C a = lookC (C.take i) a) C.length ⟨C.length, by simp⟩ ?_)
  rintro d e G ⟨i, rfl, hi, hG, h2, h1, h5, hlk⟩
  subst G
  rcases Nat.eq_zero_or_pos d with rfl | hpos
  · obtain ⟨b, o, rfl, hb, k0⟩ := hs'.at1 ha
    have hx : S[a]? = some S[a] := List.getElem?_eq_getElem ha
    simp at k0
    rw [List.take_zero, lookC_nil] at hlk
    simp [c_ref1_read_l6, h2, h1, h5, f0, ha, k0, lookD, hlk, hx]
  · obtain ⟨j, rfl⟩ : ∃ j, d = j + 1 := ⟨d - 1, by omega⟩
    have hj : j < C.length := by omega
    obtain ⟨b, o, rfl, hb, k0, k1⟩ := hc'.at2 hj
    rw [List.take_succ_eq_append_getElem hj, lookC_snoc] at hlk
    generalize C[j] = w at *
    obtain ⟨x, s⟩ := w
    simp at k0 k1
    have e1 : ((j + 1 : Nat) : Int) - 1 = (j : Int) := by omega
    rw [e1] at h5
    have w1 : IntKind.i64.wrap ((j : Int) - 1) = (j : Int) - 1 := wrap_i64 (by omega) (by omega)
    by_cases hx : x = (a : Int)
    · subst hx
      simp at hlk
      simp [c_ref1_read_l6, h2, h1, h5, f1, hj, k0, k1, lookD, hlk]
    · simp [hx] at hlk
      simp [c_ref1_read_l6, h2, h1, h5, f1, hj, k0, k1, hx, w1]
      exact ⟨j, by omega, by omega, rfl, hlk⟩
theorem rread_ok (s c : Value) (d : Dk) (at_ : Int) (H : Heap) (hs : Strs H s d.1) (hc : Imgs H c d.2) : call K f_ref1_Read [.agg #[s, c], .int .i64 at_] H = some (.tuple #[.string (rdD d at_), .int .i64 (rdE d at_)], H) := by
  refine of_wpf (open_pure rfl fc_ref1_Read rfl (Nat.le_of_ble_eq_true rfl) ?_)
  have c1 := fun X => rdskMay_ok s c d (H.roAll.add X) (hs.roAll.ext ((Ext.refl _).add X)) (hc.roAll.ext ((Ext.refl _).add X))
  by_cases h : rdOk d at_ = true
  · rw [rdD, rdE, if_pos h, if_pos h]
    simp only [rdOk, Bool.and_eq_true, decide_eq_true_eq] at h
    obtain ⟨⟨h1, h2⟩, h3⟩ := h
    have h4 : d.1.length = 394 := by simp only [dOk, Bool.and_eq_true, decide_eq_true_eq] at h1; omega
    have c2 := fun X => rlook_ok s c d at_ (H.roAll.add X) (hs.roAll.ext ((Ext.refl _).add X)) (hc.roAll.ext ((Ext.refl _).add X)) ⟨h2, by omega⟩
    obtain ⟨p, k, rfl⟩ := hs.slice
    obtain ⟨q, m, rfl⟩ := hc.slice
    have h2' : ¬ at_ < 0 := by omega
    have h3' : ¬ 394 ≤ at_ := by omega
    simp [c1, c2, h1, h2', h3']
  · have h' : rdOk d at_ = false := by simpa using h
    rw [rdD, rdE, if_neg h, if_neg h]
    obtain ⟨p, k, rfl⟩ := hs.slice
    obtain ⟨q, m, rfl⟩ := hc.slice
    by_cases h1 : dOk d = true
    · by_cases h2 : at_ < 0
      · simp [c1, h1, h2]
      · have h3 : 394 ≤ at_ := by simp [rdOk, h1] at h'; omega
        simp [c1, h1, h2, h3]
    · have h1' : dOk d = false := by simpa using h1
      simp [c1, h1']
def sec (x : Int) : ByteArray := strOfNums (List.replicate 64 (IntKind.u8.wrap x))
theorem sec_size (x : Int) : (sec x).size = 64 := by rw [sec, size_strOfNums]; simp
theorem nums_row : ∀ (vs : List Int), numsOfRow (vs.map fun n => .int .u8 n) = some vs
  | [] => rfl
  | v :: vs => by rw [List.map_cons, numsOfRow_cons, nums_row vs]; rfl
theorem sector_ok (x : Int) (H : Heap) : call K f_law2_sector [.int .i64 x] H = some (.string (sec x), H) := by
  refine of_wpf (open_pure rfl fc_law2_sector rfl (Nat.le_of_ble_eq_true rfl) ?_)
  obtain ⟨y, hy⟩ : ∃ y, y = IntKind.u8.wrap x := ⟨_, rfl⟩
  have z1 : (64 : Nat) ≤ 70368744177664 := by omega
  obtain ⟨n, hn⟩ : ∃ n : Nat, n = 64 := ⟨_, rfl⟩
  simp [natOf_int]
  refine wp_nxt (wp_for (fun d e G => ∃ (i : Nat) (B : Blk), d = 64 - i ∧ i ≤ 64 ∧ G.blk H.next = some B ∧ B.ro = false ∧ (∀ j, j < 64 → B.at_ j = some (.int .u8 (if j < i then y else 0))) ∧ e 0 = .int .i64 x ∧ e 3 = .slice (some ⟨H.next, 0, none⟩) n 129 ∧ e 4 = .int .i64 (i : Int)) 64 ⟨0, fillB 1 64 [.int .u8 0], by simp, by simp, by simp, rfl, fun j hj => by simp [hj, Nat.mod_one], by simp, by simp [hn], by simp⟩ ?_)
  rintro d e G ⟨i, B, rfl, hi, hB, hro, hat, h0, h3, h4⟩
  have hcb : ∀ o, G.cell H.next o = B.at_ o := fun o => by simp only [Heap.cell, hB]
  by_cases hlt : i < 64
  · have w1 : (i : Int) < 64 := by omega
    have hln : i < n := by omega
    simp [c_law2_sector_l6, h0, h3, h4, hln, w1, hB, hro, hcb, hat i hlt, ← hy]
    refine ⟨64 - (i + 1), by omega, i + 1, rfl, hlt, fun j hj => ?_, wrap_succ (by omega)⟩
    by_cases hji : j = i
    · subst hji; simp
    · rw [if_neg hji, hat j hj]
      by_cases hlt2 : j < i
      · rw [if_pos hlt2, if_pos (by omega)]
      · rw [if_neg hlt2, if_neg (by omega)]
  · obtain rfl : i = 64 := by omega
    have hrow : G.row H.next 0 n = some (List.replicate n (.int .u8 y)) := row_of n 0 (by simp) fun j hj => by
      rw [Nat.zero_add, hcb, hat j (by omega), if_pos (by omega)]; simp [hj]
    simp [c_law2_sector_l6, h3, h4, hrow, nums_rep]
    rw [sec, hn, hy]
end Go.AM
