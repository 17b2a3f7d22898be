import Derived.Test.YtbgidagbogpfkaaDoorR8CodeL
import Derived.Test.YtbgidagbogpfkaaDoorR8P
/- The law's awake; statements ScriptBack and ScriptRows. -/
namespace Go.AM
open Go.Proofs
set_option linter.unusedVariables false
set_option linter.unusedSimpArgs false
set_option maxRecDepth 100000
attribute [-simp] ByteArray.size_eq_zero_iff Heap.store Heap.row
theorem parse_ok' (s : ByteArray) (hs : s.size ≤ 140737488355328) (G : Heap) : ∃ v G', call K f_script_Parse [.string s] G = some (.tuple #[v, .int .i64 (parseS s).2], G') ∧ Rows encA 10 G' v (parseS s).1 ∧ Ext G G' := by
  have := parse_ok s hs G
  rw [parse_spec] at this; exact this
def aw1 : Ac := ⟨0, ⟨#[97]⟩, ⟨#[49, 58]⟩, ⟨#[]⟩, ⟨#[]⟩, ⟨#[]⟩, 0, ⟨#[]⟩, 0, 0⟩
def aw2 : Ac := ⟨5, ⟨#[97]⟩, ⟨#[]⟩, ⟨#[]⟩, ⟨#[112]⟩, ⟨#[120]⟩, 7, ⟨#[1, 0]⟩, -1, 9⟩
def aw3 : Ac := ⟨11, ⟨#[]⟩, ⟨#[]⟩, ⟨#[]⟩, ⟨#[]⟩, ⟨#[]⟩, 0, ⟨#[]⟩, 0, 0⟩
def aw4 : Ac := ⟨9, ⟨#[97]⟩, ⟨#[]⟩, ⟨#[]⟩, ⟨#[]⟩, ⟨#[]⟩, 0, ⟨#[]⟩, 0, 0⟩
def awT : ByteArray := ⟨#[48, 32, 48, 32, 48, 32, 49, 32, 49, 58, 97, 50, 58, 49, 58, 48, 58, 48, 58, 48, 58, 48, 58, 53, 32, 55, 32, 57, 32, 48, 32, 49, 58, 97, 48, 58, 48, 58, 49, 58, 112, 49, 58, 120, 50, 58, 1, 0, 49, 49, 32, 48, 32, 48, 32, 49, 32, 48, 58, 48, 58, 48, 58, 48, 58, 48, 58, 48, 58]⟩
theorem aw_may1 : [aw1, aw2, aw3].all mayB = true := by kernel_rfl
theorem aw_text : S (showL [aw1, aw2, aw3]) = awT := by kernel_rfl
theorem aw_show : showS [aw1, aw2, aw3] = (awT, 0) := by
  unfold showS; rw [if_pos ⟨by simp, aw_may1⟩, aw_text]
theorem aw_may2 : mayB aw2 = true := by kernel_rfl
theorem aw_may4 : mayB aw4 = false := by kernel_rfl
theorem aw_show4 : showS [aw4] = (⟨#[]⟩, 2400) := by
  unfold showS; rw [if_neg]; intro h; have := h.2; simp [aw_may4] at this
theorem aw_bad : (parseF 257 [] [48, 32] false).2 = true := by kernel_rfl
theorem aw_parse : parseS ⟨#[48, 32]⟩ = ([], 2400) := by
  rw [← parse_spec]
  unfold resP
  rw [if_neg]; intro h
  have h1 := h.1
  rw [show L (⟨#[48, 32]⟩ : ByteArray) = [48, 32] from rfl, aw_bad] at h1
  cases h1
theorem awake_ok (H : Heap) : call K f_law24_awake [] H = some (.bool true, H) := by
  refine of_wpf (open_pure rfl fc_law24_awake rfl (Nat.le_of_ble_eq_true rfl) ?_)
  generalize H.roAll = G
  have r1 : Rows encA 10 (G.add (rowBlk 10 ([aw1, aw2, aw3].flatMap encA))) (.slice (some ⟨G.next, 0, none⟩) 3 7) [aw1, aw2, aw3] := rows_add encA_len rfl rfl (by omega) (by omega)
  have hs1 := show_ok _ _ _ r1
  rw [showV_eq, aw_show] at hs1
  obtain ⟨v1, G1, p1, q1, E1⟩ := parse_ok' awT (by decide) (G.add (rowBlk 10 ([aw1, aw2, aw3].flatMap encA)))
  rw [parseS_shown aw_show] at p1 q1
  obtain ⟨v2, G2, p2, q2, E2⟩ := parse_ok' ⟨#[48, 32]⟩ (by decide) G1
  rw [aw_parse] at p2 q2
  have r4 : Rows encA 10 (G2.add (rowBlk 10 ([aw4].flatMap encA))) (.slice (some ⟨G2.next, 0, none⟩) 1 3) [aw4] := rows_add encA_len rfl rfl (by omega) (by omega)
  have hs4 := show_ok _ _ _ r4
  rw [showV_eq, aw_show4] at hs4
  have E3 : Ext G2 (G2.add (rowBlk 10 ([aw4].flatMap encA))) := (Ext.refl G2).add _
  have r1' := r1.ext ((E1.trans E2).trans E3)
  have q1' := q1.ext (E2.trans E3)
  have hsame := sameActs_ok _ _ _ _ _ r1' q1' (by simp)
  obtain ⟨b, o, hb, hb2, hrow⟩ := rows_act r1' (i := 1) (by simp)
  cases hb
  have hmay := fun G => may_ok aw2 G
  rw [aw_may2] at hmay
  have hrow' : (G2.add (rowBlk 10 ([aw4].flatMap encA))).row G.next 10 10 = some (encA aw2) := by simpa using hrow
  simp only [awT, List.flatMap_cons, List.flatMap_nil, List.append_nil, List.nil_append, List.cons_append, acV, encA, aw1, aw2, aw3, aw4] at hs1 p1 p2 hs4 hsame hmay hrow'
  simp [hs1, p1, p2, hs4, hsame, hmay, hrow']
theorem flat_true (H : Heap) : True := trivial
theorem showV_flat (xs : List Ac) : flat (showV xs) = true := rfl
theorem back_law (v : Value) (xs : List Ac) (s : ByteArray) (H : Heap) (hr : Rows encA 10 H v xs) (hl : xs.length ≤ 140737488355328) (hs : s.size ≤ 140737488355328) : call K f_law24_ScriptBack [v, .string s] H = some (.bool true, H) := by
  refine of_wpf (open_pure rfl fc_law24_ScriptBack rfl (Nat.le_of_ble_eq_true rfl) ?_)
  have ha := awake_ok H.roAll
  have hr := hr.roAll
  generalize H.roAll = G at *
  have h1 := show_ok v xs G hr
  rw [showV_eq] at h1
  -- the second half, from any memory
  have half : ∀ G1, ∃ c G2, call K f_script_Parse [.string s] G1 = some (.tuple #[c, .int .i64 (parseS s).2], G2) ∧ Rows encA 10 G2 c (parseS s).1 ∧ call K f_script_Show [c] G2 = some (showV (parseS s).1, G2) := fun G1 => by
    obtain ⟨c, G2, p1, p2, _⟩ := parse_ok' s hs G1
    exact ⟨c, G2, p1, p2, show_ok c _ G2 p2⟩
  by_cases h0 : (showS xs).2 = 0
  · have hx : showS xs = ((showS xs).1, 0) := Prod.ext rfl h0
    obtain ⟨b, Gb, p1, p2, E1⟩ := parse_ok' (showS xs).1 (by
      obtain ⟨k1, k2, k3⟩ := showS_ok hx
      rw [k3, S_size]
      have := showL_len xs fun a ha => MayP.of (List.all_eq_true.1 k2 a ha)
      omega) G
    rw [parseS_shown hx] at p1 p2
    have hsame := sameActs_ok v b xs xs Gb (hr.ext E1) p2 hl
    obtain ⟨c, G2, q1, q2, q3⟩ := half Gb
    rw [h0] at h1
    obtain ⟨pc, cc, rfl⟩ := q2.slice
    by_cases g0 : (parseS s).2 = 0
    · have hsh := parseS_ok g0
      rw [showV_eq, hsh] at q3
      rw [g0] at q1
      simp [ha, h1, p1, hsame, q1, q3]
    · have hb := parseS_bad g0
      rw [hb] at q1
      simp [ha, h1, p1, hsame, q1, hb]
  · obtain ⟨c, G2, q1, q2, q3⟩ := half G
    obtain ⟨pc, cc, rfl⟩ := q2.slice
    by_cases g0 : (parseS s).2 = 0
    · have hsh := parseS_ok g0
      rw [showV_eq, hsh] at q3
      rw [g0] at q1
      simp [ha, h1, h0, q1, q3]
    · have hb := parseS_bad g0
      rw [hb] at q1
      simp [ha, h1, h0, q1, hb]
end Go.AM
