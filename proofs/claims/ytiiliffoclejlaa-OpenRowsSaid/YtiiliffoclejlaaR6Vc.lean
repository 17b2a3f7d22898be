import Derived.Test.YtiiliffoclejlaaR6Vb
/- Plain laws: sectors that are blank. -/
namespace Go.AM
open Go.Proofs
set_option linter.unusedVariables false
set_option linter.unusedSimpArgs false
set_option maxRecDepth 100000
attribute [-simp] ByteArray.size_eq_zero_iff
theorem store_set {d : Dk} {p : Pg} {tss : List (List Img)} (h : Store d p tss) {i : Nat} (hi : i < 394) : dOk (d.1.set i (zer 64), []) = true ∧ ∀ j, vw (d.1.set i (zer 64), []) j = if i = j then zer 64 else vw d j := by
  obtain ⟨h1, h2, h3, h4⟩ := dOk_len h.ok
  refine ⟨dOk_mk (by simpa using h1) (by simp) (all64_set h3 i (zer_size 64)) (fun w hw => by cases hw), fun j => ?_⟩
  rw [vw_nil, sg_set (by omega)]
  have hf := h.flat
  obtain ⟨S, C⟩ := d
  simp only at hf
  subst hf
  rw [vw_nil]
theorem hz_none : hdOf (zer 64) = (0, 0, 500) := hdOf_none zer_pair
theorem rz_none : getR (getP (zer 64)) = (0, 0, 0, ⟨#[]⟩, 300) := by rw [zer_pair, getR_nil]
/-- a blank sector that is neither the head nor a page at home: nothing is lost of a store that has no transaction -/
theorem zero_open {d : Dk} {p : Pg} (h : Store d p []) {i : Nat} (hi : i < 202) (hne : i ≠ (p.hn % 2).toNat) : openP (d.1.set i (zer 64), []) = (p, 0) := by
  obtain ⟨k1, k2⟩ := store_set h (i := i) (by omega)
  obtain ⟨m1, m2, m3, m4, m5⟩ := pgMay_of h.sound.may
  have hS := h.sound
  have hhn : (p.hn % 2).toNat < 2 := by omega
  have hhn2 : ((p.hn + 1) % 2).toNat < 2 := by omega
  have s2 : Sound (vw (d.1.set i (zer 64), [])) p [] := {
    may := hS.may
    head := by rw [k2, if_neg hne]; exact hS.head
    other := fun m t he => by
      rw [k2] at he
      split at he
      · rw [hz_none] at he; cases he
      · exact hS.other m t he
    seqs := fun j hj he => by
      by_cases e : i = 2 + j
      · rw [lR, k2, if_pos e, rz_none] at he; cases he
      · have hc : vw (d.1.set i (zer 64), []) (2 + j) = vw d (2 + j) := by rw [k2, if_neg e]
        rw [lR_congr hc] at he ⊢
        exact hS.seqs j hj he
    clean := fun j hj => by
      by_cases e : i = j
      · rw [k2, if_pos e]; exact .inl rfl
      · rw [k2, if_neg e]; exact hS.clean j hj
    lok := trivial
    log := by simp [lgN, lgT]
    used := hS.used
    next := hS.next
    tail := fun j h1 hj he => by
      by_cases e : i = 2 + j
      · rw [lR, k2, if_pos e, rz_none] at he; cases he
      · have hc : vw (d.1.set i (zer 64), []) (2 + j) = vw d (2 + j) := by rw [k2, if_neg e]
        rw [lR_congr hc] at he ⊢
        exact hS.tail j h1 hj he
    home := fun pg hpg hun j hj => by
      have hc : vw (d.1.set i (zer 64), []) (202 + 4 * pg + j) = vw d (202 + 4 * pg + j) := by rw [k2, if_neg (by omega)]
      rw [hc, hOk_congr hc]
      exact hS.home pg hpg hun j hj
    text := by
      rw [homes_congr (V := vw d) fun j h1 h2 => by rw [k2, if_neg (by omega)]]
      exact hS.text }
  rw [openP, if_pos k1]; exact s2.opened
theorem zero_both {d : Dk} {p : Pg} (h : Store d p []) : openP ((d.1.set 0 (zer 64)).set 1 (zer 64), []) = (pgO, 501) := by
  obtain ⟨h1, h2, h3, h4⟩ := dOk_len h.ok
  have hok : dOk ((d.1.set 0 (zer 64)).set 1 (zer 64), []) = true := dOk_mk (by simpa using h1) (by simp) (all64_set (all64_set h3 0 (zer_size 64)) 1 (zer_size 64)) (fun w hw => by cases hw)
  have v0 : vw ((d.1.set 0 (zer 64)).set 1 (zer 64), []) 0 = zer 64 := by
    rw [vw_nil, sg_set (by simp; omega), if_neg (by decide), sg_set (by omega), if_pos rfl]
  have v1 : vw ((d.1.set 0 (zer 64)).set 1 (zer 64), []) 1 = zer 64 := by
    rw [vw_nil, sg_set (by simp; omega), if_pos rfl]
  rw [openP, if_pos hok, openV, v0, v1, best_none zer_pair zer_pair]
  rfl
/-- a blank sector of a page at home: the page is empty, other pages are as they were -/
theorem torn_open {d : Dk} {p : Pg} (h : Store d p []) {k j : Nat} (hk : k < 48) (hj : j < 4) :
    ∃ r, openP (d.1.set (202 + 4 * k + j) (zer 64), []) = (r, 0) ∧ r.text.length = 48 ∧ (∀ i, i < 48 → i ≠ k → r.text[i]? = p.text[i]?) ∧ r.text[k]? = some ⟨#[]⟩ := by
  obtain ⟨k1, k2⟩ := store_set h (i := 202 + 4 * k + j) (by omega)
  obtain ⟨m1, m2, m3, m4, m5⟩ := pgMay_of h.sound.may
  have hS := h.sound
  have hhn : (p.hn % 2).toNat < 2 := by omega
  have hhn2 : ((p.hn + 1) % 2).toNat < 2 := by omega
  have hold : ∀ i, i < 202 → vw (d.1.set (202 + 4 * k + j) (zer 64), []) i = vw d i := fun i hi => by rw [k2, if_neg (by omega)]
  have hst : ¬ ((lR (vw (d.1.set (202 + 4 * k + j) (zer 64), [])) 0).2.2.2.2 = 0 ∧ (lR (vw (d.1.set (202 + 4 * k + j) (zer 64), [])) 0).1 = p.hs + ((0 : Nat) : Int)) := fun hh => by
    rw [lR_congr (hold (2 + 0) (by omega))] at hh
    exact hS.tail 0 (by simp [lgN]) (by omega) hh.1 hh.2
  have hsc := scan_log (V := vw (d.1.set (202 + 4 * k + j) (zer 64), [])) (hs := p.hs) (tss := []) (xs := []) m1.2 trivial (by simp [lgN, lgT]) (by simp [lgN]) (fun t ht => by cases ht) (fun _ => by simpa [lgN] using hst)
  have := open_of (V := vw (d.1.set (202 + 4 * k + j) (zer 64), [])) (best_head m1 (by rw [hold _ (by omega)]; exact hS.head) (by rw [hold _ (by omega)]; exact hS.other)) hsc
  have hpt : p.text = homes (vw d) := hS.text
  refine ⟨_, by rw [openP, if_pos k1]; exact this, ?_, fun i hi hne => ?_, ?_⟩
  · show (homes _).length = 48
    exact homes_len _
  · show (homes _)[i]? = _
    rw [hpt, homes, homes, List.getElem?_map, List.getElem?_map, List.getElem?_range hi]
    simp only [Option.map_some, Option.some.injEq]
    exact homeT_congr fun l hl => by rw [k2, if_neg (by omega)]
  · show (homes _)[k]? = _
    rw [homes, List.getElem?_map, List.getElem?_range hk]
    simp only [Option.map_some, Option.some.injEq]
    rw [homeT, if_neg fun hh => ?_]
    have := (hh j hj).1
    rw [hRec, k2, if_pos rfl, rz_none] at this; cases this
theorem comm_hn {is : List Img} (hi : imOk (-1) is = true) : (comm pgB is).2.1.hn = 0 := by
  have h48 := imOk_48 hi
  have hb : pgB.used = 0 := rfl
  rw [comm, if_pos ⟨pgB_room, hi⟩]
  by_cases hn : is = []
  · rw [if_pos hn]; rfl
  · rw [if_neg hn]
    show (baseP pgB is).hn = 0
    rw [baseP, if_neg (by omega)]; rfl
end Go.AM
