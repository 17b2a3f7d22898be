import Derived.Test.YtbgidagbogpfkaaR7CodeL
import Derived.Test.YtbgidagbogpfkaaR7Errors
/- The law ForestForms: true. -/
namespace Go.AM
open Go.Proofs
set_option linter.unusedVariables false
set_option linter.unusedSimpArgs false
set_option maxRecDepth 100000
attribute [-simp] ByteArray.size_eq_zero_iff
/-- The given forest's three blocks. -/
structure GF (G : Heap) (n : Nat) (l1 l2 l3 : List Value) : Prop where
  next : n + 3 ≤ G.next
  b1 : ∃ B, G.blk n = some B ∧ B.ro = false ∧ ∀ j, B.at_ j = l1[j]?
  b2 : ∃ B, G.blk (n + 1) = some B ∧ B.ro = false ∧ ∀ j, B.at_ j = l2[j]?
  b3 : ∃ B, G.blk (n + 2) = some B ∧ B.ro = false ∧ ∀ j, B.at_ j = l3[j]?
theorem blk_put {G : Heap} {b : Nat} {B : Blk} {l : List Value} (hB : G.blk b = some B) (hro : B.ro = false) (hat : ∀ j, B.at_ j = l[j]?) {j : Nat} (hj : j < l.length) {v : Value} (hv : v.oneCell' = true) :
    G.store b j [v] = some (G.set b (some (B.put j v))) ∧ (B.put j v).ro = false ∧ ∀ k, (B.put j v).at_ k = (l.set j v)[k]? := by
  refine ⟨?_, hro, fun k => ?_⟩
  · have h1 : G.cell b j = some l[j] := by simp only [Heap.cell, hB, hat, List.getElem?_eq_getElem hj]
    simp [Heap.store, hB, hro, Heap.row, h1, hv, Blk.puts]
  · show (if k = j then some v else B.at_ k) = _
    rw [List.getElem?_set, hat]
    by_cases e : k = j
    · subst e; simp [hj]
    · rw [if_neg e, if_neg (Ne.symm e)]
theorem GF.s1 {G : Heap} {n : Nat} {l1 l2 l3 : List Value} (h : GF G n l1 l2 l3) {j : Nat} (hj : j < l1.length) {v : Value} (hv : v.oneCell' = true) : ∃ G', G.store n j [v] = some G' ∧ GF G' n (l1.set j v) l2 l3 ∧ G'.next = G.next ∧ ∀ k, n + 3 ≤ k → G'.blk k = G.blk k := by
  obtain ⟨B, h1, h2, h3⟩ := h.b1
  obtain ⟨k1, k2, k3⟩ := blk_put h1 h2 h3 hj hv
  exact ⟨_, k1, ⟨h.next, ⟨_, blk_set_self _ _ _, k2, k3⟩, by rw [blk_set_ne (by omega)]; exact h.b2, by rw [blk_set_ne (by omega)]; exact h.b3⟩, rfl, fun k hk => blk_set_ne (by omega)⟩
theorem GF.s2 {G : Heap} {n : Nat} {l1 l2 l3 : List Value} (h : GF G n l1 l2 l3) {j : Nat} (hj : j < l2.length) {v : Value} (hv : v.oneCell' = true) : ∃ G', G.store (n + 1) j [v] = some G' ∧ GF G' n l1 (l2.set j v) l3 ∧ G'.next = G.next ∧ ∀ k, n + 3 ≤ k → G'.blk k = G.blk k := by
  obtain ⟨B, h1, h2, h3⟩ := h.b2
  obtain ⟨k1, k2, k3⟩ := blk_put h1 h2 h3 hj hv
  exact ⟨_, k1, ⟨h.next, by rw [blk_set_ne (by omega)]; exact h.b1, ⟨_, blk_set_self _ _ _, k2, k3⟩, by rw [blk_set_ne (by omega)]; exact h.b3⟩, rfl, fun k hk => blk_set_ne (by omega)⟩
theorem GF.s3 {G : Heap} {n : Nat} {l1 l2 l3 : List Value} (h : GF G n l1 l2 l3) {j : Nat} (hj : j < l3.length) {v : Value} (hv : v.oneCell' = true) : ∃ G', G.store (n + 2) j [v] = some G' ∧ GF G' n l1 l2 (l3.set j v) ∧ G'.next = G.next ∧ ∀ k, n + 3 ≤ k → G'.blk k = G.blk k := by
  obtain ⟨B, h1, h2, h3⟩ := h.b3
  obtain ⟨k1, k2, k3⟩ := blk_put h1 h2 h3 hj hv
  exact ⟨_, k1, ⟨h.next, by rw [blk_set_ne (by omega)]; exact h.b1, by rw [blk_set_ne (by omega)]; exact h.b2, ⟨_, blk_set_self _ _ _, k2, k3⟩⟩, rfl, fun k hk => blk_set_ne (by omega)⟩
theorem GF.add {G : Heap} {n : Nat} {l1 l2 l3 : List Value} (h : GF G n l1 l2 l3) (B : Blk) : GF (G.add B) n l1 l2 l3 := by
  have := h.next
  exact ⟨by simp; omega, by rw [blk_add_old (by omega)]; exact h.b1, by rw [blk_add_old (by omega)]; exact h.b2, by rw [blk_add_old (by omega)]; exact h.b3⟩
theorem GF.given (H : Heap) : GF (givenH H) H.next (gF1.flatMap encF) (gF2.flatMap encF) ((givenR H.next).flatMap encP) := by
  refine ⟨by simp [givenH], ⟨rowBlk 3 (gF1.flatMap encF), ?_, rfl, fun j => rfl⟩, ⟨rowBlk 3 (gF2.flatMap encF), ?_, rfl, fun j => rfl⟩, ⟨rowBlk 5 ((givenR H.next).flatMap encP), ?_, rfl, fun j => rfl⟩⟩
  · unfold givenH; rw [blk_add_old (by simp; omega), blk_add_old (by simp)]; simp
  · unfold givenH; rw [blk_add_old (by simp)]; simp
  · unfold givenH; simp
theorem rows_blk {α : Type} {enc : α → List Value} {sz : Nat} (he : ∀ x, (enc x).length = sz) {H : Heap} {b n c : Nat} {xs : List α} {l : List Value} (hl : xs.length ≤ 1000) (hn : n = xs.length) (hc : n ≤ c / 2) (hb : b < H.next) (h : ∃ B, H.blk b = some B ∧ B.ro = false ∧ ∀ j, B.at_ j = l[j]?) (e : l = xs.flatMap enc) : Rows enc sz H (.slice (some ⟨b, 0, none⟩) n c) xs := by
  obtain ⟨B, h1, _, h3⟩ := h
  exact rows_new he hl hn hc hb fun j hj => by simp only [Heap.cell, h1, h3, e]
/-- The forest in the three blocks. -/
theorem GF.fo {G : Heap} {n : Nat} {l1 l2 l3 : List Value} (h : GF G n l1 l2 l3) (x1 x2 : Inf) (e1 : l1 = x1.files.flatMap encF) (e2 : l2 = x2.files.flatMap encF) (k1 : x1.files.length = 2) (k2 : x2.files.length = 2)
    (e3 : l3 = [(x1, Value.slice (some ⟨n, 0, none⟩) 2 5), (x2, Value.slice (some ⟨n + 1, 0, none⟩) 2 5)].flatMap encP) : Fo G (.slice (some ⟨n + 2, 0, none⟩) 2 5) [(x1, .slice (some ⟨n, 0, none⟩) 2 5), (x2, .slice (some ⟨n + 1, 0, none⟩) 2 5)] := by
  have := h.next
  refine ⟨rows_blk encP_len (Nat.le_of_ble_eq_true rfl) rfl (by omega) (by omega) h.b3 e3, fun p hp => ?_⟩
  simp only [List.mem_cons, List.not_mem_nil, or_false] at hp
  rcases hp with rfl | rfl
  · exact rows_blk encF_len (by simp only [k1]; omega) (by simp only [k1]) (by omega) (by omega) h.b1 e1
  · exact rows_blk encF_len (by simp only [k2]; omega) (by simp only [k2]) (by omega) (by omega) h.b2 e2
theorem z_of {rs : List (Inf × Value)} {l : List Inf} (h : infs rs = l) (hl : l.length ≤ 10) (h1 : ∀ x ∈ l, (x.name.size ≤ 100 ∧ ∀ f ∈ x.files, f.path.size ≤ 100) ∧ x.files.length ≤ 100) : FoZ rs ∧ FoW rs := by
  have h0 : ∀ p ∈ rs, p.1 ∈ l := fun p hp => by rw [← h]; exact List.mem_map.2 ⟨p, hp, rfl⟩
  have h2 : rs.length ≤ 10 := by rw [← infs_length rs, h]; exact hl
  refine ⟨⟨by omega, fun p hp => ?_⟩, ⟨by omega, fun p hp => ?_⟩⟩
  · obtain ⟨⟨a, b⟩, c⟩ := h1 _ (h0 p hp)
    exact ⟨⟨by omega, fun f hf => by have := b f hf; unfold FilZ; omega⟩, by omega⟩
  · obtain ⟨⟨a, b⟩, c⟩ := h1 _ (h0 p hp)
    omega
theorem err_ext {H : Heap} {q : List Inf × Int} {c : Option (Value × Heap)} {e : Int} (h : wpf c (Ret H q)) (he : q.2 = e) (h0 : e ≠ 0) : ∃ G, Ext H G ∧ c = some (.tuple #[.slice none 0 0, .int .i64 e], G) := by
  obtain ⟨r, G, h1, h2⟩ := h
  have := ret_err h2 (by rw [he]; exact h0)
  rw [he] at this
  exact ⟨G, h2.1, by rw [h1, this]⟩
theorem bad_begin {xs : List Inf} (h : mayB xs = false) (ns : List ByteArray) : beginE xs ns = 1900 := by simp [beginE, h]
theorem bad_named {xs : List Inf} (h : mayB xs = false) (n : ByteArray) (ns : List ByteArray) : namedE xs n ns = 1900 := by simp [namedE, bad_begin h]
/-- What all calls answer of a forest that may not be. -/
def Bad (G : Heap) (v : Value) : Prop :=
    ∃ G1 G2 G3 G4 G5 G6, call K f_forest_Prepare [v, .string ⟨#[]⟩, .string ⟨#[]⟩, .int .i64 9] G = some (.tuple #[.slice none 0 0, .int .i64 1900], G1) ∧
      call K f_forest_Commit [v, .string ⟨#[]⟩, .string ⟨#[]⟩] G1 = some (.tuple #[.slice none 0 0, .int .i64 1900], G2) ∧
      call K f_forest_Remove [v, .string ⟨#[]⟩] G2 = some (.tuple #[.slice none 0 0, .int .i64 1900], G3) ∧
      call K f_forest_Label [v, .string ⟨#[]⟩, .string ⟨#[]⟩] G3 = some (.tuple #[.slice none 0 0, .int .i64 1900], G4) ∧
      call K f_forest_Write [v, .string ⟨#[]⟩, .string ⟨#[]⟩, .string ⟨#[]⟩] G4 = some (.tuple #[.slice none 0 0, .int .i64 1900], G5) ∧
      call K f_forest_Delete [v, .string ⟨#[]⟩, .string ⟨#[]⟩] G5 = some (.tuple #[.slice none 0 0, .int .i64 1900], G6) ∧
      call K f_forest_May [.slice (some ⟨G6.next + 2, 0, none⟩) 2 5] (givenH G6) = some (.bool true, givenH G6) ∧
      call K f_forest_May [v] (givenH G6) = some (.bool false, givenH G6)
theorem forms_end {G : Heap} {v : Value} {rs : List (Inf × Value)} (hF : Fo G v rs) {l : List Inf} (hl : infs rs = l) (h1 : l.length ≤ 10) (h2 : ∀ x ∈ l, (x.name.size ≤ 100 ∧ ∀ f ∈ x.files, f.path.size ≤ 100) ∧ x.files.length ≤ 100) (hm : mayB l = false) : Bad G v := by
  obtain ⟨hz, hw⟩ := z_of hl h1 h2
  have hm' : mayB (infs rs) = false := by rw [hl]; exact hm
  have s0 : (⟨#[]⟩ : ByteArray).size ≤ 140737488355328 := by decide
  obtain ⟨G1, E1, c1⟩ := err_ext (e := 1900) (prepare_ok v rs ⟨#[]⟩ ⟨#[]⟩ 9 G hF hz hw s0 s0) (by simp [prepareS, bad_begin hm']) (by decide)
  have hF1 := hF.ext E1
  obtain ⟨G2, E2, c2⟩ := err_ext (e := 1900) (commit_ok v rs ⟨#[]⟩ ⟨#[]⟩ G1 hF1 hz hw s0 s0) (by simp [commitS, bad_named hm']) (by decide)
  have hF2 := hF1.ext E2
  obtain ⟨G3, E3, c3⟩ := err_ext (e := 1900) (remove_ok v rs ⟨#[]⟩ G2 hF2 hz hw s0) (by simp [removeS, bad_named hm']) (by decide)
  have hF3 := hF2.ext E3
  obtain ⟨G4, E4, c4⟩ := err_ext (e := 1900) (label_ok' v rs ⟨#[]⟩ ⟨#[]⟩ G3 hF3 hz hw s0) (by simp [labelS, bad_named hm']) (by decide)
  have hF4 := hF3.ext E4
  obtain ⟨G5, E5, c5⟩ := err_ext (e := 1900) (write_ok v rs ⟨#[]⟩ ⟨#[]⟩ ⟨#[]⟩ G4 hF4 hz hw s0 s0) (by simp [writeS, fileE, bad_named hm']) (by decide)
  have hF5 := hF4.ext E5
  obtain ⟨G6, E6, c6⟩ := err_ext (e := 1900) (delete_ok v rs ⟨#[]⟩ ⟨#[]⟩ G5 hF5 hz hw s0 s0) (by simp [deleteS, fileE, bad_named hm']) (by decide)
  have hF6 := (hF5.ext E6).ext (givenH_ext G6)
  refine ⟨G1, G2, G3, G4, G5, G6, c1, c2, c3, c4, c5, c6, ?_, ?_⟩
  · have := may_ok _ _ _ (given_fo G6) (given_z G6.next).1
    rw [given_infs, given_may] at this; exact this
  · have := may_ok _ _ _ hF6 hz
    rw [hm'] at this; exact this
theorem GF.bad {G : Heap} {n : Nat} {l1 l2 l3 : List Value} (h : GF G n l1 l2 l3) (x1 x2 : Inf) (e1 : l1 = x1.files.flatMap encF) (e2 : l2 = x2.files.flatMap encF) (k1 : x1.files.length = 2) (k2 : x2.files.length = 2)
    (e3 : l3 = [(x1, Value.slice (some ⟨n, 0, none⟩) 2 5), (x2, Value.slice (some ⟨n + 1, 0, none⟩) 2 5)].flatMap encP) (h2 : ∀ x ∈ [x1, x2], (x.name.size ≤ 100 ∧ ∀ f ∈ x.files, f.path.size ≤ 100) ∧ x.files.length ≤ 100) (hm : mayB [x1, x2] = false) : Bad G (.slice (some ⟨n + 2, 0, none⟩) 2 5) :=
  forms_end (h.fo x1 x2 e1 e2 k1 k2 e3) (l := [x1, x2]) rfl (by simp) h2 hm
/-- The five that are one too many. -/
def newR : List (Inf × Value) := [(⟨⟨#[120]⟩, 0, ⟨#[]⟩, ⟨#[]⟩, []⟩, .slice none 0 0), (⟨⟨#[120, 49]⟩, 0, ⟨#[]⟩, ⟨#[]⟩, []⟩, .slice none 0 0), (⟨⟨#[120, 50]⟩, 0, ⟨#[]⟩, ⟨#[]⟩, []⟩, .slice none 0 0), (⟨⟨#[120, 51]⟩, 0, ⟨#[]⟩, ⟨#[]⟩, []⟩, .slice none 0 0), (⟨⟨#[120, 52]⟩, 0, ⟨#[]⟩, ⟨#[]⟩, []⟩, .slice none 0 0)]
attribute [-simp] Heap.store
theorem forms_law (which : Int) (H : Heap) : call K f_law19_ForestForms [.int .i64 which] H = some (.bool true, H) := by
  refine of_wpf (open_pure rfl fc_law19_ForestForms rfl (Nat.le_of_ble_eq_true rfl) ?_)
  have ha := awake_ok H.roAll
  have hg := given_ok H.roAll
  have h0 := GF.given H.roAll
  have g4 : (givenH H.roAll).cell (H.roAll.next + 2) 4 = some (.slice (some ⟨H.roAll.next, 0, none⟩) 2 5) := by
    obtain ⟨B, h1, _, h3⟩ := h0.b3
    simp only [Heap.cell, h1, h3]; rfl
  have g9 : (givenH H.roAll).cell (H.roAll.next + 2) 9 = some (.slice (some ⟨H.roAll.next + 1, 0, none⟩) 2 5) := by
    obtain ⟨B, h1, _, h3⟩ := h0.b3
    simp only [Heap.cell, h1, h3]; rfl
  obtain ⟨k, hk, hrem⟩ := umod which 16 (by omega) (by omega)
  simp only [show ((16 : Nat) : Int) = 16 from rfl] at hrem
  generalize givenH H.roAll = G0 at *
  generalize H.roAll.next = n at *
  match k, hk with
  | 0, _ =>
    obtain ⟨Y0, q0, y0, _⟩ := h0.s3 (j := 0) (v := .string ⟨#[66]⟩) (Nat.le_of_ble_eq_true rfl) rfl
    obtain ⟨G1, G2, G3, G4, G5, G6, c1, c2, c3, c4, c5, c6, m1, m2⟩ := y0.bad ⟨⟨#[66]⟩, 2, ⟨#[]⟩, ⟨#[]⟩, gF1⟩ ⟨⟨#[119, 111, 114, 107]⟩, 0, ⟨#[98, 97, 115, 101]⟩, ⟨#[]⟩, gF2⟩ rfl rfl rfl rfl rfl (by decide +kernel) (by decide +kernel)
    have hg2 := given_ok G6
    simp at hrem; simp [ha, hg, hrem, g4, g9, q0, c1, c2, c3, c4, c5, c6, m1, m2, hg2]
  | 1, _ =>
    obtain ⟨Y0, q0, y0, _⟩ := h0.s3 (j := 5) (v := .string ⟨#[98, 97, 115, 101]⟩) (Nat.le_of_ble_eq_true rfl) rfl
    obtain ⟨G1, G2, G3, G4, G5, G6, c1, c2, c3, c4, c5, c6, m1, m2⟩ := y0.bad ⟨⟨#[98, 97, 115, 101]⟩, 2, ⟨#[]⟩, ⟨#[]⟩, gF1⟩ ⟨⟨#[98, 97, 115, 101]⟩, 0, ⟨#[98, 97, 115, 101]⟩, ⟨#[]⟩, gF2⟩ rfl rfl rfl rfl rfl (by decide +kernel) (by decide +kernel)
    have hg2 := given_ok G6
    simp at hrem; simp [ha, hg, hrem, g4, g9, q0, c1, c2, c3, c4, c5, c6, m1, m2, hg2]
  | 2, _ =>
    obtain ⟨Y0, q0, y0, _⟩ := h0.s3 (j := 0) (v := .string ⟨#[122, 122]⟩) (Nat.le_of_ble_eq_true rfl) rfl
    obtain ⟨G1, G2, G3, G4, G5, G6, c1, c2, c3, c4, c5, c6, m1, m2⟩ := y0.bad ⟨⟨#[122, 122]⟩, 2, ⟨#[]⟩, ⟨#[]⟩, gF1⟩ ⟨⟨#[119, 111, 114, 107]⟩, 0, ⟨#[98, 97, 115, 101]⟩, ⟨#[]⟩, gF2⟩ rfl rfl rfl rfl rfl (by decide +kernel) (by decide +kernel)
    have hg2 := given_ok G6
    simp at hrem; simp [ha, hg, hrem, g4, g9, q0, c1, c2, c3, c4, c5, c6, m1, m2, hg2]
  | 3, _ =>
    obtain ⟨Y0, q0, y0, _⟩ := h0.s3 (j := 6) (v := .int .i64 3) (Nat.le_of_ble_eq_true rfl) rfl
    obtain ⟨G1, G2, G3, G4, G5, G6, c1, c2, c3, c4, c5, c6, m1, m2⟩ := y0.bad ⟨⟨#[98, 97, 115, 101]⟩, 2, ⟨#[]⟩, ⟨#[]⟩, gF1⟩ ⟨⟨#[119, 111, 114, 107]⟩, 3, ⟨#[98, 97, 115, 101]⟩, ⟨#[]⟩, gF2⟩ rfl rfl rfl rfl rfl (by decide +kernel) (by decide +kernel)
    have hg2 := given_ok G6
    simp at hrem; simp [ha, hg, hrem, g4, g9, q0, c1, c2, c3, c4, c5, c6, m1, m2, hg2]
  | 4, _ =>
    obtain ⟨Y0, q0, y0, _⟩ := h0.s3 (j := 7) (v := .string ⟨#[110, 111, 110, 101]⟩) (Nat.le_of_ble_eq_true rfl) rfl
    obtain ⟨G1, G2, G3, G4, G5, G6, c1, c2, c3, c4, c5, c6, m1, m2⟩ := y0.bad ⟨⟨#[98, 97, 115, 101]⟩, 2, ⟨#[]⟩, ⟨#[]⟩, gF1⟩ ⟨⟨#[119, 111, 114, 107]⟩, 0, ⟨#[110, 111, 110, 101]⟩, ⟨#[]⟩, gF2⟩ rfl rfl rfl rfl rfl (by decide +kernel) (by decide +kernel)
    have hg2 := given_ok G6
    simp at hrem; simp [ha, hg, hrem, g4, g9, q0, c1, c2, c3, c4, c5, c6, m1, m2, hg2]
  | 5, _ =>
    obtain ⟨Y0, q0, y0, _⟩ := h0.s3 (j := 1) (v := .int .i64 0) (Nat.le_of_ble_eq_true rfl) rfl
    obtain ⟨G1, G2, G3, G4, G5, G6, c1, c2, c3, c4, c5, c6, m1, m2⟩ := y0.bad ⟨⟨#[98, 97, 115, 101]⟩, 0, ⟨#[]⟩, ⟨#[]⟩, gF1⟩ ⟨⟨#[119, 111, 114, 107]⟩, 0, ⟨#[98, 97, 115, 101]⟩, ⟨#[]⟩, gF2⟩ rfl rfl rfl rfl rfl (by decide +kernel) (by decide +kernel)
    have hg2 := given_ok G6
    simp at hrem; simp [ha, hg, hrem, g4, g9, q0, c1, c2, c3, c4, c5, c6, m1, m2, hg2]
  | 6, _ =>
    obtain ⟨Y0, q0, y0, _⟩ := h0.s3 (j := 2) (v := .string ⟨#[98, 97, 115, 101]⟩) (Nat.le_of_ble_eq_true rfl) rfl
    obtain ⟨G1, G2, G3, G4, G5, G6, c1, c2, c3, c4, c5, c6, m1, m2⟩ := y0.bad ⟨⟨#[98, 97, 115, 101]⟩, 2, ⟨#[98, 97, 115, 101]⟩, ⟨#[]⟩, gF1⟩ ⟨⟨#[119, 111, 114, 107]⟩, 0, ⟨#[98, 97, 115, 101]⟩, ⟨#[]⟩, gF2⟩ rfl rfl rfl rfl rfl (by decide +kernel) (by decide +kernel)
    have hg2 := given_ok G6
    simp at hrem; simp [ha, hg, hrem, g4, g9, q0, c1, c2, c3, c4, c5, c6, m1, m2, hg2]
  | 7, _ =>
    obtain ⟨Y0, q0, y0, _⟩ := h0.s3 (j := 3) (v := .string ⟨#[102, 111, 117, 114]⟩) (Nat.le_of_ble_eq_true rfl) rfl
    obtain ⟨G1, G2, G3, G4, G5, G6, c1, c2, c3, c4, c5, c6, m1, m2⟩ := y0.bad ⟨⟨#[98, 97, 115, 101]⟩, 2, ⟨#[]⟩, ⟨#[102, 111, 117, 114]⟩, gF1⟩ ⟨⟨#[119, 111, 114, 107]⟩, 0, ⟨#[98, 97, 115, 101]⟩, ⟨#[]⟩, gF2⟩ rfl rfl rfl rfl rfl (by decide +kernel) (by decide +kernel)
    have hg2 := given_ok G6
    simp at hrem; simp [ha, hg, hrem, g4, g9, q0, c1, c2, c3, c4, c5, c6, m1, m2, hg2]
  | 8, _ =>
    obtain ⟨Y0, q0, y0, _⟩ := h0.s1 (j := 0) (v := .string ⟨#[98]⟩) (Nat.le_of_ble_eq_true rfl) rfl
    obtain ⟨G1, G2, G3, G4, G5, G6, c1, c2, c3, c4, c5, c6, m1, m2⟩ := y0.bad ⟨⟨#[98, 97, 115, 101]⟩, 2, ⟨#[]⟩, ⟨#[]⟩, [⟨⟨#[98]⟩, ⟨#[111, 110, 101]⟩, true⟩, ⟨⟨#[98]⟩, ⟨#[116, 119, 111]⟩, true⟩]⟩ ⟨⟨#[119, 111, 114, 107]⟩, 0, ⟨#[98, 97, 115, 101]⟩, ⟨#[]⟩, gF2⟩ rfl rfl rfl rfl rfl (by decide +kernel) (by decide +kernel)
    have hg2 := given_ok G6
    simp at hrem; simp [ha, hg, hrem, g4, g9, q0, c1, c2, c3, c4, c5, c6, m1, m2, hg2]
  | 9, _ =>
    obtain ⟨Y0, q0, y0, _⟩ := h0.s1 (j := 3) (v := .string ⟨#[]⟩) (Nat.le_of_ble_eq_true rfl) rfl
    obtain ⟨G1, G2, G3, G4, G5, G6, c1, c2, c3, c4, c5, c6, m1, m2⟩ := y0.bad ⟨⟨#[98, 97, 115, 101]⟩, 2, ⟨#[]⟩, ⟨#[]⟩, [⟨⟨#[97]⟩, ⟨#[111, 110, 101]⟩, true⟩, ⟨⟨#[]⟩, ⟨#[116, 119, 111]⟩, true⟩]⟩ ⟨⟨#[119, 111, 114, 107]⟩, 0, ⟨#[98, 97, 115, 101]⟩, ⟨#[]⟩, gF2⟩ rfl rfl rfl rfl rfl (by decide +kernel) (by decide +kernel)
    have hg2 := given_ok G6
    simp at hrem; simp [ha, hg, hrem, g4, g9, q0, c1, c2, c3, c4, c5, c6, m1, m2, hg2]
  | 10, _ =>
    obtain ⟨Y0, q0, y0, _⟩ := h0.s2 (j := 1) (v := .string ⟨#[115, 101, 118, 101, 110, 55, 55]⟩) (Nat.le_of_ble_eq_true rfl) rfl
    obtain ⟨G1, G2, G3, G4, G5, G6, c1, c2, c3, c4, c5, c6, m1, m2⟩ := y0.bad ⟨⟨#[98, 97, 115, 101]⟩, 2, ⟨#[]⟩, ⟨#[]⟩, gF1⟩ ⟨⟨#[119, 111, 114, 107]⟩, 0, ⟨#[98, 97, 115, 101]⟩, ⟨#[]⟩, [⟨⟨#[97]⟩, ⟨#[115, 101, 118, 101, 110, 55, 55]⟩, false⟩, ⟨⟨#[98]⟩, ⟨#[110, 101, 119]⟩, true⟩]⟩ rfl rfl rfl rfl rfl (by decide +kernel) (by decide +kernel)
    have hg2 := given_ok G6
    simp at hrem; simp [ha, hg, hrem, g4, g9, q0, c1, c2, c3, c4, c5, c6, m1, m2, hg2]
  | 11, _ =>
    obtain ⟨Y0, q0, y0, _⟩ := h0.s3 (j := 6) (v := .int .i64 1) (Nat.le_of_ble_eq_true rfl) rfl
    obtain ⟨G1, G2, G3, G4, G5, G6, c1, c2, c3, c4, c5, c6, m1, m2⟩ := y0.bad ⟨⟨#[98, 97, 115, 101]⟩, 2, ⟨#[]⟩, ⟨#[]⟩, gF1⟩ ⟨⟨#[119, 111, 114, 107]⟩, 1, ⟨#[98, 97, 115, 101]⟩, ⟨#[]⟩, gF2⟩ rfl rfl rfl rfl rfl (by decide +kernel) (by decide +kernel)
    have hg2 := given_ok G6
    simp at hrem; simp [ha, hg, hrem, g4, g9, q0, c1, c2, c3, c4, c5, c6, m1, m2, hg2]
  | 12, _ =>
    have hn := h0.next
    obtain ⟨A, hA⟩ : ∃ A, A = rowBlk 3 [.string ⟨#[99]⟩, .string ⟨#[]⟩, .bool false, .string ⟨#[100]⟩, .string ⟨#[]⟩, .bool false, .string ⟨#[101]⟩, .string ⟨#[]⟩, .bool false] := ⟨_, rfl⟩
    have hrow : (G0.add A).row n 0 (2 * 3) = some (gF1.flatMap encF) := by
      obtain ⟨B, b1, _, b3⟩ := (h0.add A).b1
      exact row_of _ 0 rfl fun j hj => by simp only [Heap.cell, b1, b3, Nat.zero_add]
    have happ := appV_odd (H := G0.add A) (esz := 3) (bytes := 40) (k := 3) (b := n) (o := 0) (n := 2) (c := 5) (xs := gF1.flatMap encF) (ys := [.string ⟨#[99]⟩, .string ⟨#[]⟩, .bool false, .string ⟨#[100]⟩, .string ⟨#[]⟩, .bool false, .string ⟨#[101]⟩, .string ⟨#[]⟩, .bool false]) (by omega) (by omega) (by omega) (by omega) (by omega) rfl hrow
    obtain ⟨X, hX⟩ : ∃ X, X = (G0.add A).add (rowBlk 3 (gF1.flatMap encF ++ [.string ⟨#[99]⟩, .string ⟨#[]⟩, .bool false, .string ⟨#[100]⟩, .string ⟨#[]⟩, .bool false, .string ⟨#[101]⟩, .string ⟨#[]⟩, .bool false])) := ⟨_, rfl⟩
    have hXn : X.next = G0.next + 2 := by rw [hX]; rfl
    have hXb : X.blk (G0.next + 1) = some (rowBlk 3 (gF1.flatMap encF ++ [.string ⟨#[99]⟩, .string ⟨#[]⟩, .bool false, .string ⟨#[100]⟩, .string ⟨#[]⟩, .bool false, .string ⟨#[101]⟩, .string ⟨#[]⟩, .bool false])) := by rw [hX]; simp [Heap.add]
    have gX : GF X n (gF1.flatMap encF) (gF2.flatMap encF) ((givenR n).flatMap encP) := by rw [hX]; exact (h0.add _).add _
    have g4X : X.cell (n + 2) 4 = some (.slice (some ⟨n, 0, none⟩) 2 5) := by
      obtain ⟨B, h1, _, h3⟩ := gX.b3
      simp only [Heap.cell, h1, h3]; rfl
    rw [← hX] at happ
    obtain ⟨Y0, q0, y0, ynx, yold⟩ := gX.s3 (j := 4) (v := .slice (some ⟨G0.next + 1, 0, none⟩) 5 10) (Nat.le_of_ble_eq_true rfl) rfl
    have hF : Fo Y0 (.slice (some ⟨n + 2, 0, none⟩) 2 5) [(⟨tB, 2, ⟨#[]⟩, ⟨#[]⟩, gF1 ++ [⟨⟨#[99]⟩, ⟨#[]⟩, false⟩, ⟨⟨#[100]⟩, ⟨#[]⟩, false⟩, ⟨⟨#[101]⟩, ⟨#[]⟩, false⟩]⟩, .slice (some ⟨G0.next + 1, 0, none⟩) 5 10), (⟨tW, 0, tB, ⟨#[]⟩, gF2⟩, .slice (some ⟨n + 1, 0, none⟩) 2 5)] := by
      refine ⟨rows_blk encP_len (Nat.le_of_ble_eq_true rfl) rfl (by omega) (by omega) y0.b3 rfl, fun p hp => ?_⟩
      simp only [List.mem_cons, List.not_mem_nil, or_false] at hp
      rcases hp with rfl | rfl
      · refine rows_blk (l := gF1.flatMap encF ++ [.string ⟨#[99]⟩, .string ⟨#[]⟩, .bool false, .string ⟨#[100]⟩, .string ⟨#[]⟩, .bool false, .string ⟨#[101]⟩, .string ⟨#[]⟩, .bool false]) encF_len (Nat.le_of_ble_eq_true rfl) rfl (by omega) (by omega) ⟨_, by rw [yold _ (by omega)]; exact hXb, rfl, fun j => rfl⟩ rfl
      · exact rows_blk encF_len (Nat.le_of_ble_eq_true rfl) rfl (by omega) (by omega) y0.b2 rfl
    obtain ⟨G1, G2, G3, G4, G5, G6, c1, c2, c3, c4, c5, c6, m1, m2⟩ := forms_end hF (l := [⟨tB, 2, ⟨#[]⟩, ⟨#[]⟩, gF1 ++ [⟨⟨#[99]⟩, ⟨#[]⟩, false⟩, ⟨⟨#[100]⟩, ⟨#[]⟩, false⟩, ⟨⟨#[101]⟩, ⟨#[]⟩, false⟩]⟩, ⟨tW, 0, tB, ⟨#[]⟩, gF2⟩]) rfl (by decide) (by decide +kernel) (by decide +kernel)
    have hg2 := given_ok G6
    rw [hA] at happ
    simp at hrem happ; simp [ha, hg, hrem, g4, happ, g4X, q0, c1, c2, c3, c4, c5, c6, m1, m2, hg2]
  | 13, _ =>
    have hn := h0.next
    obtain ⟨A, hA⟩ : ∃ A, A = rowBlk 5 (newR.flatMap encP) := ⟨_, rfl⟩
    have hrow : (G0.add A).row (n + 2) 0 (2 * 5) = some ((givenR n).flatMap encP) := by
      obtain ⟨B, b1, _, b3⟩ := (h0.add A).b3
      exact row_of _ 0 rfl fun j hj => by simp only [Heap.cell, b1, b3, Nat.zero_add]
    have happ := appV_odd (H := G0.add A) (esz := 5) (bytes := 80) (k := 5) (b := n + 2) (o := 0) (n := 2) (c := 5) (xs := (givenR n).flatMap encP) (ys := newR.flatMap encP) (by omega) (by omega) (by omega) (by omega) (by omega) rfl hrow
    obtain ⟨X, hX⟩ : ∃ X, X = (G0.add A).add (rowBlk 5 ((givenR n).flatMap encP ++ newR.flatMap encP)) := ⟨_, rfl⟩
    have hXn : X.next = G0.next + 2 := by rw [hX]; rfl
    have hXb : X.blk (G0.next + 1) = some (rowBlk 5 ((givenR n).flatMap encP ++ newR.flatMap encP)) := by rw [hX]; simp [Heap.add]
    have gX : GF X n (gF1.flatMap encF) (gF2.flatMap encF) ((givenR n).flatMap encP) := by rw [hX]; exact (h0.add _).add _
    rw [← hX] at happ
    have hF : Fo X (.slice (some ⟨G0.next + 1, 0, none⟩) 7 14) (givenR n ++ newR) := by
      refine ⟨rows_blk encP_len (Nat.le_of_ble_eq_true rfl) rfl (by omega) (by omega) ⟨_, hXb, rfl, fun j => rfl⟩ (by rw [List.flatMap_append]), fun p hp => ?_⟩
      simp only [givenR, newR, List.mem_append, List.mem_cons, List.not_mem_nil, or_false] at hp
      rcases hp with (rfl | rfl) | rfl | rfl | rfl | rfl | rfl
      · exact rows_blk encF_len (Nat.le_of_ble_eq_true rfl) rfl (by omega) (by omega) gX.b1 rfl
      · exact rows_blk encF_len (Nat.le_of_ble_eq_true rfl) rfl (by omega) (by omega) gX.b2 rfl
      all_goals exact Rows.nil
    obtain ⟨G1, G2, G3, G4, G5, G6, c1, c2, c3, c4, c5, c6, m1, m2⟩ := forms_end hF (l := givenL ++ infs newR) rfl (by decide) (by decide +kernel) (by decide +kernel)
    have hg2 := given_ok G6
    rw [hA] at happ
    simp [newR] at hrem happ; simp [ha, hg, hrem, happ, c1, c2, c3, c4, c5, c6, m1, m2, hg2]
  | 14, _ =>
    obtain ⟨Y0, q0, y0, _⟩ := h0.s3 (j := 6) (v := .int .i64 2) (Nat.le_of_ble_eq_true rfl) rfl
    obtain ⟨Y1, q1, y1, _⟩ := y0.s3 (j := 2) (v := .string ⟨#[119, 111, 114, 107]⟩) (Nat.le_of_ble_eq_true rfl) rfl
    obtain ⟨G1, G2, G3, G4, G5, G6, c1, c2, c3, c4, c5, c6, m1, m2⟩ := y1.bad ⟨⟨#[98, 97, 115, 101]⟩, 2, ⟨#[119, 111, 114, 107]⟩, ⟨#[]⟩, gF1⟩ ⟨⟨#[119, 111, 114, 107]⟩, 2, ⟨#[98, 97, 115, 101]⟩, ⟨#[]⟩, gF2⟩ rfl rfl rfl rfl rfl (by decide +kernel) (by decide +kernel)
    have hg2 := given_ok G6
    simp at hrem; simp [ha, hg, hrem, g4, g9, q0, q1, c1, c2, c3, c4, c5, c6, m1, m2, hg2]
  | 15, _ =>
    obtain ⟨Y0, q0, y0, _⟩ := h0.s1 (j := 0) (v := .string ⟨#[108, 111, 110, 103]⟩) (Nat.le_of_ble_eq_true rfl) rfl
    obtain ⟨G1, G2, G3, G4, G5, G6, c1, c2, c3, c4, c5, c6, m1, m2⟩ := y0.bad ⟨⟨#[98, 97, 115, 101]⟩, 2, ⟨#[]⟩, ⟨#[]⟩, [⟨⟨#[108, 111, 110, 103]⟩, ⟨#[111, 110, 101]⟩, true⟩, ⟨⟨#[98]⟩, ⟨#[116, 119, 111]⟩, true⟩]⟩ ⟨⟨#[119, 111, 114, 107]⟩, 0, ⟨#[98, 97, 115, 101]⟩, ⟨#[]⟩, gF2⟩ rfl rfl rfl rfl rfl (by decide +kernel) (by decide +kernel)
    have hg2 := given_ok G6
    simp at hrem; simp [ha, hg, hrem, g4, g9, q0, c1, c2, c3, c4, c5, c6, m1, m2, hg2]
  | k + 16, h => exact absurd h (by omega)
end Go.AM
