/- Plain laws: what is made is scanned as it was. -/
import Derived.Test.YteamlnogjjgdoaaR3H
namespace Go.AM
open Go.Proofs
set_option linter.unusedVariables false
set_option linter.unusedSimpArgs false
set_option maxRecDepth 100000
attribute [-simp] ByteArray.size_eq_zero_iff
theorem partD_size (s : ByteArray) (k : Nat) : (partD s k).size = min (k * 24 + 24) s.size - min (k * 24) s.size := by
  unfold partD; rw [size_extract]; omega
theorem partD_le (s : ByteArray) (k : Nat) : (partD s k).size ≤ 24 := by rw [partD_size]; omega
theorem partD_next {s : ByteArray} {k : Nat} (h : (partD s k).size ≠ 24) : (partD s (k + 1)).size = 0 := by
  rw [partD_size] at h ⊢; omega
theorem partD_join {s : ByteArray} (h : s.size ≤ 96) : (((⟨#[]⟩ ++ partD s 0) ++ partD s 1) ++ partD s 2) ++ partD s 3 = s := by
  apply L_inj
  unfold partD
  simp only [L_append, L_extract, L_nil, List.nil_append]
  have hl := L_length s
  generalize L s = l at *
  have e : ∀ a b : Nat, a ≤ b → l.take a ++ (l.drop a).take (b - a) = l.take b := fun a b hab => by
    rw [← List.take_add, show a + (b - a) = b by omega]
  rw [show (List.drop (min (0 * 24) s.size) l).take (min (0 * 24 + 24) s.size - min (0 * 24) s.size) = l.take (min (0 * 24 + 24) s.size) by simp]
  rw [show min (1 * 24) s.size = min (0 * 24 + 24) s.size by omega, e _ _ (by omega)]
  rw [show min (2 * 24) s.size = min (1 * 24 + 24) s.size by omega, e _ _ (by omega)]
  rw [show min (3 * 24) s.size = min (2 * 24 + 24) s.size by omega, e _ _ (by omega)]
  rw [List.take_of_length_le (by omega)]
theorem getR_txt {r : Rec} (h : RMay r.1 r.2.1 r.2.2.1 r.2.2.2) : getR (txtR r) = (r.1, r.2.1, r.2.2.1, r.2.2.2, 0) := by
  unfold txtR; rw [putR_yes h]; exact get_recOf h
theorem scanGo_one {seq : Int} {S S' : Sc} {i : Nat} {r : Rec} {ts : List ByteArray} (hm : RMay r.1 r.2.1 r.2.2.1 r.2.2.2) (hs : r.1 = seq + i) (ht : takeS S r i = some S') : scanGo seq S i (txtR r :: ts) = scanGo seq S' (i + 1) ts := by
  simp only [scanGo, getR_txt hm]
  rw [if_pos ⟨trivial, hs⟩]
  show (match takeS S r i with | some S' => _ | none => _) = _
  rw [ht]
/-- Is a page behind the last image's? -/
def behind (is : List Img) (p : Int) : Prop := ∀ x, is.getLast? = some x → x.1 < p
theorem takeS_new {S : Sc} {q pg : Int} {d : ByteArray} {i : Nat} (hp : S.part = 0) (hb : behind S.opn pg) : takeS S (q, pg, 0, d) i = some { S with opn := S.opn ++ [(pg, ⟨#[]⟩ ++ d)], part := 1, full := decide (d.size = 24) } := by
  unfold takeS
  cases hg : S.opn.getLast? with
  | none => simp [hp, putS]
  | some y =>
    have := hb y hg
    have h2 : ¬ pg ≤ y.1 := by omega
    simp [hp, putS, h2]
theorem takeS_more {S : Sc} {q pg : Int} {d tx0 : ByteArray} {ini : List Img} {p i : Nat} (h0 : p ≠ 0) (h4 : p < 4) (hp : S.part = p) (ho : S.opn = ini ++ [(pg, tx0)]) (hf : S.full = true ∨ d.size = 0) :
    takeS S (q, pg, (p : Int), d) i = some { S with opn := ini ++ [(pg, tx0 ++ d)], part := (p + 1) % 4, full := decide (d.size = 24) } := by
  unfold takeS
  have e1 : ¬ ((p : Int) = 4) := by omega
  have e3 : (((p : Int) + 1) % 4).toNat = (p + 1) % 4 := by omega
  have e4 : ¬ (S.full = false ∧ ¬ d.size = 0) := by rcases hf with h | h <;> simp [h]
  rw [ho]
  simp [hp, e1, h0, putS, e3]
  simpa using e4
theorem scanGo_img {seq : Int} {S : Sc} {i : Nat} {x : Img} {s : Int} {ts : List ByteArray} (hp : S.part = 0) (hs : s = seq + i) (hq : 1 ≤ s ∧ s + 4 ≤ 2147483647) (hx : (0 ≤ x.1 ∧ x.1 < 48) ∧ x.2.size ≤ 96) (hb : behind S.opn x.1) :
    ∃ fl, scanGo seq S i ((recsOf x s).map txtR ++ ts) = scanGo seq { S with opn := S.opn ++ [x], part := 0, full := fl } (i + 4) ts := by
  obtain ⟨pg, tx⟩ := x
  simp only at hx hb
  have may : ∀ k : Nat, k < 4 → RMay (s + k) pg k (partD tx k) := fun k hk => ⟨by omega, .inr ⟨by omega, by omega, hx.1.1, hx.1.2, partD_le tx k⟩⟩
  have fl : ∀ k : Nat, (decide ((partD tx k).size = 24)) = true ∨ (partD tx (k + 1)).size = 0 := fun k => by
    by_cases h : (partD tx k).size = 24
    · left; simpa using h
    · right; exact partD_next h
  refine ⟨decide ((partD tx 3).size = 24), ?_⟩
  show scanGo seq S i (txtR (s + (0 : Nat), pg, ((0 : Nat) : Int), partD tx 0) :: txtR (s + (1 : Nat), pg, ((1 : Nat) : Int), partD tx 1) :: txtR (s + (2 : Nat), pg, ((2 : Nat) : Int), partD tx 2) :: txtR (s + (3 : Nat), pg, ((3 : Nat) : Int), partD tx 3) :: ts) = _
  have hj := partD_join hx.2
  have f0 := fl 0
  have f1 := fl 1
  have f2 := fl 2
  have m0 := may 0 (by omega)
  have m1 := may 1 (by omega)
  have m2 := may 2 (by omega)
  have m3 := may 3 (by omega)
  generalize partD tx 0 = d0 at *
  generalize partD tx (0 + 1) = d1 at *
  generalize partD tx (1 + 1) = d2 at *
  generalize partD tx (2 + 1) = d3 at *
  have t0 : takeS S (s + (0 : Nat), pg, ((0 : Nat) : Int), d0) i = _ := takeS_new hp hb
  rw [scanGo_one (r := (s + (0 : Nat), pg, ((0 : Nat) : Int), d0)) m0 (by simp; omega) t0]
  rw [scanGo_one (r := (s + (1 : Nat), pg, ((1 : Nat) : Int), d1)) m1 (by simp; omega) (takeS_more (p := 1) (by omega) (by omega) rfl rfl f0)]
  rw [scanGo_one (r := (s + (2 : Nat), pg, ((2 : Nat) : Int), d2)) m2 (by simp; omega) (takeS_more (p := 2) (by omega) (by omega) rfl rfl f1)]
  rw [scanGo_one (r := (s + (3 : Nat), pg, ((3 : Nat) : Int), d3)) m3 (by simp; omega) (takeS_more (p := 3) (by omega) (by omega) rfl rfl f2)]
  rw [hj]
theorem scanGo_all {seq : Int} {ts : List ByteArray} : ∀ (xs : List Img) (S : Sc) (i : Nat) (s last : Int), S.part = 0 → s = seq + i → 1 ≤ s → s + 4 * xs.length ≤ 2147483647 → (∀ x, S.opn.getLast? = some x → x.1 ≤ last) → imOk last xs = true →
    ∃ fl, scanGo seq S i ((recsAll xs s).map txtR ++ ts) = scanGo seq { S with opn := S.opn ++ xs, part := 0, full := fl } (i + 4 * xs.length) ts
  | [], S, i, s, last, hp, hs, h1, h2, hl, hk => ⟨S.full, by cases S; simp only at hp; subst hp; simp [recsAll]⟩
  | x :: xs, S, i, s, last, hp, hs, h1, h2, hl, hk => by
    simp [imOk] at hk
    obtain ⟨⟨k1, k2, k3⟩, k4⟩ := hk
    simp at h2
    have hb : behind S.opn x.1 := fun y hy => by have := hl y hy; omega
    obtain ⟨fl, e1⟩ := scanGo_img (x := x) (s := s) (ts := (recsAll xs (s + 4)).map txtR ++ ts) hp hs ⟨h1, by omega⟩ ⟨k2, k3⟩ hb
    obtain ⟨fl2, e2⟩ := scanGo_all (seq := seq) (ts := ts) xs { S with opn := S.opn ++ [x], part := 0, full := fl } (i + 4) (s + 4) x.1 rfl (by omega) (by omega) (by omega) (fun y hy => by simp at hy; subst hy; exact Int.le_refl _) k4
    refine ⟨fl2, ?_⟩
    rw [recsAll, List.map_append, List.append_assoc, e1, e2]
    simp only [List.append_assoc, List.singleton_append, List.length_cons]
    rw [show i + 4 + 4 * xs.length = i + 4 * (xs.length + 1) by omega]
theorem scanGo_txn {seq : Int} {S : Sc} {i : Nat} {xs : List Img} {s : Int} {ts : List ByteArray} (hp : S.part = 0) (ho : S.opn = []) (hs : s = seq + i) (hk : MkOk xs s) :
    ∃ fl, scanGo seq S i ((mkRecs xs s).map txtR ++ ts) = scanGo seq ⟨S.done ++ [xs], i + 4 * xs.length + 1, [], 0, fl⟩ (i + 4 * xs.length + 1) ts := by
  have h1 := hk.2.1; have h2 := hk.2.2
  obtain ⟨fl, e⟩ := scanGo_all (ts := txtR (s + 4 * (xs.length : Int), 0, 4, ⟨#[]⟩) :: ts) xs S i s (-1) hp hs h1.1 h2 (fun x hx => by rw [ho] at hx; cases hx) hk.1
  refine ⟨fl, ?_⟩
  rw [mkRecs, if_pos hk, List.map_append, List.append_assoc]
  show scanGo seq S i (List.map txtR (recsAll xs s) ++ (txtR (s + 4 * (xs.length : Int), 0, 4, ⟨#[]⟩) :: ts)) = _
  rw [e, scanGo_one (r := (s + 4 * (xs.length : Int), 0, 4, ⟨#[]⟩)) (S' := ⟨S.done ++ [xs], i + 4 * xs.length + 1, [], 0, fl⟩) ⟨by omega, .inl ⟨rfl, rfl, rfl⟩⟩ (by simp; omega)]
  simp [takeS, commitS, ho]
theorem scanGo_quiet {seq : Int} : ∀ (ts : List ByteArray) (S : Sc) (i : Nat), (∀ t ∈ ts, (getR t).2.2.1 ≠ 4) → (scanGo seq S i ts).done = S.done ∧ (scanGo seq S i ts).used = S.used
  | [], S, i, _ => ⟨rfl, rfl⟩
  | t :: ts, S, i, h => by
    have h0 := h t (by simp)
    rw [scanGo]
    split
    · split
      · rename_i S' ht
        have := scanGo_quiet (seq := seq) ts S' (i + 1) (fun u hu => h u (by simp [hu]))
        have hS : S'.done = S.done ∧ S'.used = S.used := by
          unfold takeS at ht
          simp only [h0, if_false] at ht
          split at ht
          · cases ht
          · split at ht
            · split at ht <;> cases ht
              exact ⟨rfl, rfl⟩
            · split at ht
              · split at ht <;> cases ht
                exact ⟨rfl, rfl⟩
              · split at ht <;> cases ht
                exact ⟨rfl, rfl⟩
        rw [this.1, this.2]; exact hS
      · exact ⟨rfl, rfl⟩
    · exact ⟨rfl, rfl⟩
theorem part_txt (r : Rec) (h : r.2.2.1 ≠ 4) : (getR (txtR r)).2.2.1 ≠ 4 := by
  by_cases hm : RMay r.1 r.2.1 r.2.2.1 r.2.2.2
  · rw [getR_txt hm]; exact h
  · unfold txtR; rw [putR_no hm]; unfold getR; rw [if_neg (fun hh => absurd hh.1 (by decide))]; simp
theorem part_recs : ∀ (xs : List Img) (s : Int), ∀ r ∈ recsAll xs s, r.2.2.1 ≠ 4
  | [], _, r, h => by cases h
  | x :: xs, s, r, h => by
    rw [recsAll, List.mem_append] at h
    rcases h with h | h
    · unfold recsOf at h
      obtain ⟨k, hk, rfl⟩ := List.mem_map.1 h
      have := List.mem_range.1 hk
      simp only [recAtI]; omega
    · exact part_recs xs (s + 4) r h
/-- What is ahead of a transaction's commit commits nothing. -/
theorem scanGo_cut {seq : Int} {S : Sc} {i : Nat} {xs : List Img} {s : Int} {k : Nat} (hk : MkOk xs s) (h : k < (mkRecs xs s).length) : (scanGo seq S i (((mkRecs xs s).map txtR).take k)).done = S.done ∧ (scanGo seq S i (((mkRecs xs s).map txtR).take k)).used = S.used := by
  apply scanGo_quiet
  intro t ht
  rw [mkRecs, if_pos hk] at h ht
  simp at h
  rw [List.map_append, List.take_append_of_le_length (by simp; omega)] at ht
  have ht := List.mem_of_mem_take ht
  obtain ⟨r, hr, rfl⟩ := List.mem_map.1 ht
  exact part_txt r (part_recs _ _ r hr)
theorem mkRecs_len {xs : List Img} {s : Int} (hk : MkOk xs s) : (mkRecs xs s).length = 4 * xs.length + 1 := by rw [mkRecs, if_pos hk]; simp [recsAll_len]
end Go.AM
