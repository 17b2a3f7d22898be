/- Contracts: parts, transactions made. -/
import Derived.Test.YtiiliffoclejlaaR6B
import Derived.Test.YtiiliffoclejlaaAm3
namespace Go.AM
open Go.Proofs
set_option linter.unusedVariables false
set_option linter.unusedSimpArgs false
set_option maxRecDepth 100000
attribute [-simp] ByteArray.size_eq_zero_iff
def partD (s : ByteArray) (k : Nat) : ByteArray := s.extract (min (k * 24) s.size) (min (k * 24 + 24) s.size)
def recAtI (i : Img) (seq : Int) (k : Nat) : Rec := (seq + k, i.1, k, partD i.2 k)
def recsOf (i : Img) (seq : Int) : List Rec := (List.range 4).map (recAtI i seq)
theorem recsOf_len (i : Img) (seq : Int) : (recsOf i seq).length = 4 := rfl
theorem parts_ok (pg : Int) (tx : ByteArray) (seq : Int) (H : Heap) (hs : 1 ≤ seq ∧ seq ≤ 2147483647) (hb : tx.size ≤ 96) :
    wpf (call K f_log_Parts [.agg #[.int .i64 pg, .string tx], .int .i64 seq, .int .i64 1] H) fun v H' => Ext H H' ∧ Own encR 4 H.next H' v (recsOf (pg, tx) seq) := by
  refine open_plain rfl fc_log_Parts rfl (Nat.le_of_ble_eq_true rfl) ?_
  simp
  refine wp_nxt (wp_for (fun d e G => ∃ (i : Nat), d = 4 - i ∧ i ≤ 4 ∧ Ext H G ∧ H.next + 1 ≤ G.next ∧ e 3 = .pointer (some ⟨H.next, 0, none⟩) ∧ e 1 = .int .i64 seq ∧ e 2 = .int .i64 1 ∧ e 11 = .int .i64 (i : Int) ∧ G.cell H.next 0 = some (.int .i64 pg) ∧ G.cell H.next 1 = some (.string tx) ∧ Own encR 4 (H.next + 1) G (e 7) ((List.range i).map (recAtI (pg, tx) seq))) 4 ⟨0, by simp [(Ext.refl H).add, Own.nil]⟩ ?_)
  rintro d e G ⟨i, rfl, hi, hE, hn, h3, h1, h2, h11, c0, c1, ho⟩
  by_cases hlt : i < 4
  · have w0 : (i : Int) < 4 := by omega
    obtain ⟨m, hm⟩ : ∃ m : Nat, m = i * 24 := ⟨_, rfl⟩
    have w1 : IntKind.i64.wrap ((i : Int) * 24) = (m : Int) := by rw [wrap_i64 (by omega) (by omega)]; omega
    obtain ⟨f, hf⟩ : ∃ f : Nat, f = min (i * 24) tx.size := ⟨_, rfl⟩
    have w2 : (if tx.size < m then (tx.size : Int) else (m : Int)) = (f : Int) := by split <;> omega
    obtain ⟨g, hg⟩ : ∃ g : Nat, g = f + 24 := ⟨_, rfl⟩
    have w3 : IntKind.i64.wrap ((f : Int) + 24) = (g : Int) := by rw [wrap_i64 (by omega) (by omega)]; omega
    obtain ⟨t, ht⟩ : ∃ t : Nat, t = min (i * 24 + 24) tx.size := ⟨_, rfl⟩
    have w4 : (if tx.size < g then (tx.size : Int) else (g : Int)) = (t : Int) := by split <;> omega
    have w5 : slsV tx (some (.int .i64 (f : Int))) (some (.int .i64 (t : Int))) = some (.string (partD tx i)) := by
      have a1 : f ≤ t := by omega
      have a2 : t ≤ tx.size := by omega
      simp [slsV, bound, a1, a2]; subst hf ht; rfl
    have w6 : IntKind.i64.wrap (i : Int) = (i : Int) := wrap_i64 (by omega) (by omega)
    have w7 : IntKind.i64.wrap (seq + (i : Int)) = seq + (i : Int) := wrap_i64 (by omega) (by omega)
    have hne : H.next ≠ G.next := by omega
    have hA : ∀ B, appV (G.add B) 4 40 1 (e 7) [.int .i64 (seq + (i : Int)), .int .i64 pg, .int .i64 (i : Int), .string (partD tx i)] = some (.slice (some ⟨G.next + 1, 0, none⟩) (i + 1) (2 * (i + 1)), (killB (e 7) (G.add B)).add (rowBlk 4 (((List.range (i + 1)).map (recAtI (pg, tx) seq)).flatMap encR))) := fun B => by
      have hx := (ho.ext ((Ext.refl G).add B)).app encR_len (bytes := 40) (k := 1) [.int .i64 (seq + (i : Int)), .int .i64 pg, .int .i64 (i : Int), .string (partD tx i)] (by omega) rfl (by simp; omega) (by simp; omega)
      rw [hx]
      simp [List.range_succ, recAtI]
    have hk : ∀ B o, (killB (e 7) (G.add B)).cell H.next o = (G.add B).cell H.next o := fun B o => cell_killB (ho.notIn (by omega))
    have hne2 : H.next ≠ G.next + 1 := by omega
    simp [c_log_Parts_l9, h3, h1, h2, h11, c0, c1, w0, w1, w2, w3, w4, w5, w6, w7, hne, hne2, hk, hA]
    refine ⟨4 - (i + 1), by omega, i + 1, rfl, hlt, (ho.ext_kill (by omega) (hE.add _)).add _, by omega, wrap_succ (by omega), ?_⟩
    have hz := Own.new (enc := encR) (sz := 4) (n0 := H.next + 1) (H := killB (e 7) (G.add (rowBlk 4 [.int .i64 (seq + (i : Int)), .int .i64 pg, .int .i64 (i : Int), .string (partD tx i)]))) (xs := (List.range (i + 1)).map (recAtI (pg, tx) seq)) (by simp; omega) (by simp; omega) _ rfl
    simpa using hz
  · obtain rfl : i = 4 := by omega
    simp [c_log_Parts_l9, h11, h3]
    exact ⟨hE, ho.low (by omega)⟩
def recsAll : List Img → Int → List Rec
  | [], _ => []
  | x :: xs, seq => recsOf x seq ++ recsAll xs (seq + 4)
theorem recsAll_len : ∀ (xs : List Img) (seq : Int), (recsAll xs seq).length = 4 * xs.length
  | [], _ => rfl
  | x :: xs, seq => by rw [recsAll, List.length_append, recsOf_len, recsAll_len xs, List.length_cons]; omega
theorem recsAll_app : ∀ (xs ys : List Img) (seq : Int), recsAll (xs ++ ys) seq = recsAll xs seq ++ recsAll ys (seq + 4 * xs.length)
  | [], ys, seq => by simp [recsAll]
  | x :: xs, ys, seq => by
    simp only [List.cons_append, recsAll, recsAll_app xs ys, List.append_assoc, List.length_cons]
    rw [show seq + 4 + 4 * (xs.length : Int) = seq + 4 * ((xs.length + 1 : Nat) : Int) by omega]
theorem recsAll_take (xs : List Img) (seq : Int) {i : Nat} (h : i < xs.length) : recsAll (xs.take (i + 1)) seq = recsAll (xs.take i) seq ++ recsOf xs[i] (seq + 4 * i) := by
  rw [List.take_succ_eq_append_getElem h, recsAll_app, List.length_take, Nat.min_eq_left (by omega)]
  simp [recsAll]
def MkOk (xs : List Img) (seq : Int) : Prop := imOk (-1) xs = true ∧ (1 ≤ seq ∧ seq ≤ 2147483647) ∧ seq + 4 * xs.length ≤ 2147483647
instance (xs : List Img) (seq : Int) : Decidable (MkOk xs seq) := by unfold MkOk; infer_instance
def mkRecs (xs : List Img) (seq : Int) : List Rec := if MkOk xs seq then recsAll xs seq ++ [(seq + 4 * xs.length, 0, 4, ⟨#[]⟩)] else []
def mkErr (xs : List Img) (seq : Int) : Int := if MkOk xs seq then 0 else 400
theorem imOk_drop : ∀ (xs : List Img) (i : Nat) (l : Int) (h : i < xs.length), imOk l xs = true → (0 ≤ xs[i].1 ∧ xs[i].1 < 48) ∧ xs[i].2.size ≤ 96
  | x :: xs, 0, l, _, hk => by simp [imOk] at hk; exact ⟨hk.1.2.1, hk.1.2.2⟩
  | x :: xs, i + 1, l, h, hk => by
    simp [imOk] at hk
    exact imOk_drop xs i x.1 (by simpa using h) hk.2
theorem make_ok (v : Value) (xs : List Img) (seq : Int) (H : Heap) (h : Imgs H v xs) :
    wpf (call K f_log_Make [v, .int .i64 seq] H) fun r H' => Ext H H' ∧ ∃ v', r = .tuple #[v', .int .i64 (mkErr xs seq)] ∧ Own encR 4 H.next H' v' (mkRecs xs seq) := by
  obtain ⟨p, c, rfl⟩ := h.slice
  have hl := h.lim
  refine open_plain rfl fc_log_Make rfl (Nat.le_of_ble_eq_true rfl) ?_
  have hIm : ∀ G, Ext H G → call K f_log_Images [.slice p xs.length c] G = some (.bool (imOk (-1) xs), G) := fun G hE => images_ok _ xs G (h.ext hE)
  have hI0 := hIm H (Ext.refl H)
  by_cases k1 : imOk (-1) xs = true
  · have h48 := imOk_48 k1
    by_cases k2 : 1 ≤ seq ∧ seq ≤ 2147483647
    · have w1 : IntKind.i64.wrap (IntKind.i64.wrap (seq + IntKind.i64.wrap (IntKind.i64.wrap ((xs.length : Int) * 4) + 1)) - 1) = seq + 4 * (xs.length : Int) := by
        rw [wrap_i64 (x := (xs.length : Int) * 4) (by omega) (by omega), wrap_i64 (x := (xs.length : Int) * 4 + 1) (by omega) (by omega), wrap_i64 (x := seq + _) (by omega) (by omega), wrap_i64 (by omega) (by omega)]; omega
      have w2 : (1 : Int) ≤ seq + 4 * (xs.length : Int) := by omega
      by_cases k3 : seq + 4 * (xs.length : Int) ≤ 2147483647
      · have hok : MkOk xs seq := ⟨k1, k2, k3⟩
        simp [hI0, k1, k2, w1, w2, k3]
        refine wp_nxt (wp_for (fun d e G => ∃ (i : Nat), d = xs.length - i ∧ i ≤ xs.length ∧ Ext H G ∧ e 27 = .slice p xs.length c ∧ e 28 = .int .i64 (xs.length : Int) ∧ e 29 = .int .i64 (i : Int) ∧ e 1 = .int .i64 seq ∧ e 5 = .int .i64 0 ∧ Own encR 4 H.next G (e 6) (recsAll (xs.take i) seq)) xs.length ⟨0, by simp [Ext.refl, recsAll, Own.nil]⟩ ?_)
        rintro d e G ⟨i, rfl, hi, hE, h27, h28, h29, h1, h5, ho⟩
        by_cases hlt : i < xs.length
        · obtain ⟨b, o, rfl, hb, e0, e1⟩ := h.at2 hlt
          have hn := hE.next
          have hb' : b ≠ G.next := by omega
          rw [← hE.cell (o := _) hb] at e0 e1
          have hx := imOk_drop xs i (-1) hlt k1
          have ht := recsAll_take xs seq hlt
          generalize xs[i] = x at *
          obtain ⟨pg, tx⟩ := x
          simp at e0 e1 hx
          obtain ⟨s', hs'⟩ : ∃ s', s' = seq + 4 * (i : Int) := ⟨_, rfl⟩
          rw [← hs'] at ht
          obtain ⟨fv, fG, hc, hQ⟩ := wpf_choose (fun G0 => parts_ok pg tx s' G0 (by omega) hx.2)
          have hln : (recsAll (xs.take i) seq).length = 4 * i := by rw [recsAll_len, List.length_take]; omega
          have hL := ho.len
          rw [hln] at hL
          have w3 : IntKind.i64.wrap (seq + 4 * (i : Int)) = s' := by rw [wrap_i64 (by omega) (by omega)]; omega
          simp at hL
          have hA : ∀ B f, appE 4 40 (e 6) (fv ((G.add B).set G.next f)) (fG ((G.add B).set G.next f)) = some (.slice (some ⟨(fG ((G.add B).set G.next f)).next, 0, none⟩) (recsAll (xs.take (i + 1)) seq).length (2 * (recsAll (xs.take (i + 1)) seq).length), (killB (e 6) (fG ((G.add B).set G.next f))).add (rowBlk 4 ((recsAll (xs.take (i + 1)) seq).flatMap encR))) := fun B f => by
            have q := hQ ((G.add B).set G.next f)
            rw [(ho.ext ((((Ext.refl G).add B).set (by simp) f).trans q.1)).appR (q.2.rows encR_len) encR_len (fun _ => rfl) (by simp [recsOf_len]) (by rw [hln, recsOf_len]; omega) (by rw [hln, recsOf_len]; omega), ht]
          simp [c_log_Make_l9, h27, h28, h29, h1, h5, hlt, e0, e1, hb', hc, hL, w3, hA]
          refine ⟨xs.length - (i + 1), by omega, i + 1, rfl, hlt, ?_, wrap_succ (by omega), ?_⟩
          · have q := hQ ((G.add (rowBlk 2 [.int .i64 0, .string ⟨#[]⟩])).set G.next (some (((rowBlk 2 [.int .i64 0, .string ⟨#[]⟩]).put 0 (.int .i64 pg)).put 1 (.string tx))))
            exact (ho.ext_kill (Nat.le_refl _) ((hE.add _).set (by omega) _ |>.trans q.1)).add _
          · have q := (hQ ((G.add (rowBlk 2 [.int .i64 0, .string ⟨#[]⟩])).set G.next (some (((rowBlk 2 [.int .i64 0, .string ⟨#[]⟩]).put 0 (.int .i64 pg)).put 1 (.string tx))))).1.next
            simp at q
            exact Own.new' (by simp) (by omega) (by rw [recsAll_len, List.length_take]; omega) rfl
        · obtain rfl : i = xs.length := by omega
          rw [List.take_length] at ho
          have hL := ho.len
          rw [recsAll_len] at hL
          simp at hL
          have w3 : IntKind.i64.wrap (seq + 4 * (xs.length : Int)) = seq + 4 * (xs.length : Int) := wrap_i64 (by omega) (by omega)
          have hA : ∀ B, appV (G.add B) 4 40 1 (e 6) [.int .i64 (seq + 4 * (xs.length : Int)), .int .i64 0, .int .i64 4, .string ⟨#[]⟩] = some (.slice (some ⟨G.next + 1, 0, none⟩) (mkRecs xs seq).length (2 * (mkRecs xs seq).length), (killB (e 6) (G.add B)).add (rowBlk 4 ((mkRecs xs seq).flatMap encR))) := fun B => by
            rw [(ho.ext ((Ext.refl G).add B)).app encR_len _ (by omega) rfl (by rw [recsAll_len]; omega) (by rw [recsAll_len]; omega)]
            simp [mkRecs, hok]
          simp [c_log_Make_l9, h28, h29, h1, h5, hL, w3, hA, mkErr, hok]
          have hn := hE.next
          exact ⟨(ho.ext_kill (Nat.le_refl _) (hE.add _)).add _, Own.new' (by simp) (by omega) (by simp [mkRecs, hok, recsAll_len]; omega) rfl⟩
      · have hok : ¬ MkOk xs seq := fun hk => k3 hk.2.2
        simp [hI0, k1, k2, w1, w2, k3, hok, mkErr, mkRecs, Own.nil, Ext.refl]
    · have hok : ¬ MkOk xs seq := fun hk => k2 hk.2.1
      simp [hI0, k1, k2, hok, mkErr, mkRecs, Own.nil, Ext.refl]
  · have hok : ¬ MkOk xs seq := fun hk => k1 hk.1
    simp [hI0, k1, hok, mkErr, mkRecs, Own.nil, Ext.refl]
end Go.AM
