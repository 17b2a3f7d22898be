/- Contracts: what every program answers that is a disk. -/
import Derived.Test.YtiiliffoclejlaaR6Za
namespace Go.AM
open Go.Proofs
set_option linter.unusedVariables false
set_option linter.unusedSimpArgs false
set_option maxRecDepth 100000
attribute [-simp] ByteArray.size_eq_zero_iff
theorem Rows.sliceN {α : Type} {enc : α → List Value} {sz n : Nat} {H : Heap} {v : Value} {xs : List α} (h : Rows enc sz H v xs) (hn : xs.length = n) : ∃ p c, v = .slice p n c := by
  obtain ⟨p, c, e⟩ := h.slice; exact ⟨p, c, by rw [e, hn]⟩
def nilB : Blk := rowBlk 2 [.slice none 0 0, .slice none 0 0]
def bx (s c : Value) : Blk := (nilB.put 0 s).put 1 c
theorem bx_fold (s c : Value) : ((rowBlk 2 [.slice none 0 0, .slice none 0 0]).put 0 s).put 1 c = bx s c := rfl
theorem nilB_fold : rowBlk 2 [.slice none 0 0, .slice none 0 0] = nilB := rfl
@[simp] theorem at_bx (s c : Value) (o : Nat) : (bx s c).at_ o = if o = 1 then some c else if o = 0 then some s else nilB.at_ o := rfl
@[simp] theorem ro_bx (s c : Value) : (bx s c).ro = false := rfl
/-- A box for a disk behind a heap. -/
def bxH (G : Heap) (s c : Value) : Heap := (G.add (rowBlk 2 [.slice none 0 0, .slice none 0 0])).set G.next (some (((rowBlk 2 [.slice none 0 0, .slice none 0 0]).put 0 s).put 1 c))
theorem bxH_ext (G : Heap) (s c : Value) : Ext G (bxH G s c) := ((Ext.refl G).add _).set (Nat.le_refl _) _
theorem bxH_next (G : Heap) (s c : Value) : (bxH G s c).next = G.next + 1 := rfl
theorem bxH_blk (G : Heap) (s c : Value) : (bxH G s c).blk G.next = some (((rowBlk 2 [.slice none 0 0, .slice none 0 0]).put 0 s).put 1 c) := by simp [bxH]
theorem bxH_eq (G : Heap) (s c : Value) : (G.add (rowBlk 2 [.slice none 0 0, .slice none 0 0])).set G.next (some (((rowBlk 2 [.slice none 0 0, .slice none 0 0]).put 0 s).put 1 c)) = bxH G s c := rfl
/-- Block k holds a disk's two fields. -/
structure BoxD (G : Heap) (k : Nat) (s c : Value) : Prop where
  lt : k < G.next
  is : ∃ B, G.blk k = some B ∧ B.ro = false ∧ B.at_ 0 = some s ∧ B.at_ 1 = some c
theorem BoxD.ext {G G' : Heap} {k : Nat} {s c : Value} (h : BoxD G k s c) (hE : Ext G G') : BoxD G' k s c :=
  ⟨by have := hE.next; have := h.lt; omega, by rw [hE.blk _ h.lt]; exact h.is⟩
theorem BoxD.c0 {G : Heap} {k : Nat} {s c : Value} (h : BoxD G k s c) : G.cell k 0 = some s := by
  obtain ⟨B, h1, _, h2, _⟩ := h.is; simp only [Heap.cell, h1, h2]
theorem BoxD.c1 {G : Heap} {k : Nat} {s c : Value} (h : BoxD G k s c) : G.cell k 1 = some c := by
  obtain ⟨B, h1, _, _, h2⟩ := h.is; simp only [Heap.cell, h1, h2]
theorem BoxD.new (G : Heap) (s c : Value) : BoxD (bxH G s c) G.next s c := ⟨by simp [bxH], _, bxH_blk G s c, rfl, rfl, rfl⟩
theorem BoxD.set {G : Heap} {k : Nat} (hk : k < G.next) (s c : Value) : BoxD (G.set k (some (((rowBlk 2 [.slice none 0 0, .slice none 0 0]).put 0 s).put 1 c))) k s c := ⟨hk, _, blk_set_self _ _ _, rfl, rfl, rfl⟩
/-! ### what the steps answer -/
theorem all64_set {S : List ByteArray} (h : ∀ s ∈ S, s.size = 64) (k : Nat) {t : ByteArray} (ht : t.size = 64) : ∀ s ∈ S.set k t, s.size = 64 := fun s hs => by
  rcases List.mem_or_eq_of_mem_set hs with h' | rfl
  · exact h s h'
  · exact ht
theorem dOk_mk {S : List ByteArray} {C : List Img} (h1 : S.length = 394) (h2 : C.length ≤ 512) (h3 : ∀ s ∈ S, s.size = 64) (h4 : ∀ w ∈ C, wOk w = true) : dOk (S, C) = true := by
  simp only [dOk, Bool.and_eq_true, decide_eq_true_eq, List.all_eq_true]
  exact ⟨⟨⟨h1, h2⟩, h3⟩, h4⟩
theorem wOk_mk {k : Nat} {t : ByteArray} (hk : k < 394) (ht : t.size = 64) : wOk ((k : Int), t) = true := by simp [wOk, ht]; omega
theorem newD_ok : dOk newD = true := dOk_mk (by simp [nSec_eq]) (by simp) (fun s hs => by rw [(List.mem_replicate.1 hs).2, zer_size]) (fun w hw => by cases hw)
theorem newD_len : newD.1.length = 394 := by simp [newD, nSec_eq]
theorem do_write {d : Dk} (hd : dOk d = true) {k : Nat} {t : ByteArray} (hk : k < 394) (ht : t.size = 64) (hc : d.2.length < 512) :
    doR d (false, (k : Int), t) = (d.1, d.2 ++ [((k : Int), t)]) ∧ doE d (false, (k : Int), t) = 0 ∧ dOk (d.1, d.2 ++ [((k : Int), t)]) = true := by
  obtain ⟨h1, h2, h3, h4⟩ := dOk_len hd
  have hw := wOk_mk hk ht
  have e : doO d (false, (k : Int), t) = some (d.1, d.2 ++ [((k : Int), t)]) := by
    unfold doO; rw [if_pos hd, if_pos rfl, if_pos ⟨hw, by omega⟩]
  refine ⟨by rw [doR, e]; rfl, by rw [doE, e]; rfl, dOk_mk h1 (by simp; omega) h3 fun w hw2 => ?_⟩
  rcases List.mem_append.1 hw2 with h | h
  · exact h4 w h
  · rw [List.mem_singleton.1 h]; exact hw
theorem applyW_64 : ∀ (C : List Img) (S : List ByteArray), (∀ s ∈ S, s.size = 64) → (∀ w ∈ C, wOk w = true) → ∀ s ∈ applyW S C, s.size = 64
  | [], S, h, _ => h
  | w :: C, S, h, hw => by
    obtain ⟨k, _, _, hs⟩ := wOk_of (hw w (by simp))
    exact applyW_64 C _ (all64_set h _ hs) fun x hx => hw x (by simp [hx])
theorem do_flush {d : Dk} (hd : dOk d = true) : doR d (true, 0, ⟨#[]⟩) = (applyW d.1 d.2, []) ∧ doE d (true, 0, ⟨#[]⟩) = 0 ∧ dOk (applyW d.1 d.2, []) = true := by
  obtain ⟨h1, h2, h3, h4⟩ := dOk_len hd
  have e : doO d (true, 0, ⟨#[]⟩) = some (applyW d.1 d.2, []) := by
    unfold doO; rw [if_pos hd, if_neg (by simp), if_pos ⟨rfl, rfl⟩]
  exact ⟨by rw [doR, e]; rfl, by rw [doE, e]; rfl, dOk_mk (by rw [applyW_len]; exact h1) (by simp) (applyW_64 _ _ h3 h4) (fun w hw => by cases hw)⟩
theorem tornR_size {old new : ByteArray} {at_ : Int} (h1 : old.size = 64) (h2 : new.size = 64) (h3 : 0 ≤ at_ ∧ at_ ≤ 64) : (tornR old new at_).size = 64 := by
  rw [tornR, if_pos ⟨⟨h1, h2⟩, h3⟩, size_append, size_extract, size_extract]; omega
theorem crN_64 {keep : ByteArray} {torn at_ : Int} {S : List ByteArray} {C : List Img} (hl : S.length = 394) (h : ∀ s ∈ S, s.size = 64) (hw : ∀ w ∈ C, wOk w = true) (ha : 0 ≤ at_ ∧ at_ ≤ 64) : ∀ i, ∀ s ∈ crN keep torn at_ S C i, s.size = 64
  | 0 => h
  | i + 1 => by
    have ih := crN_64 (keep := keep) (torn := torn) hl h hw ha i
    simp only [crN]
    cases hc : C[i]? with
    | none => exact ih
    | some w =>
      simp only
      obtain ⟨k, hk, hk2, hs⟩ := wOk_of (hw w (List.mem_of_getElem? hc))
      unfold crStep
      have hlen := crN_len keep torn at_ S C i
      split
      · refine all64_set ih _ (tornR_size ?_ hs ha)
        rw [hk, Int.toNat_natCast, List.getElem?_eq_getElem (by omega)]
        exact ih _ (List.getElem_mem _)
      · split
        · exact all64_set ih _ hs
        · exact ih
theorem do_crash {d : Dk} (hd : dOk d = true) (keep : ByteArray) (torn : Int) {at_ : Int} (ha : 0 ≤ at_ ∧ at_ ≤ 64) :
    crR d keep torn at_ = (crN keep torn at_ d.1 d.2 d.2.length, []) ∧ crE d at_ = 0 ∧ dOk (crN keep torn at_ d.1 d.2 d.2.length, []) = true := by
  obtain ⟨h1, h2, h3, h4⟩ := dOk_len hd
  have e : crOk d at_ = true := by simp [crOk, hd, ha]
  exact ⟨by rw [crR, if_pos e], by rw [crE, if_pos e], dOk_mk (by rw [crN_len]; exact h1) (by simp) (crN_64 h1 h3 h4 ha _) (fun w hw => by cases hw)⟩
theorem do_read {d : Dk} (hd : dOk d = true) {k : Nat} (hk : k < 394) : rdD d (k : Int) = lookD d (k : Int) ∧ rdE d (k : Int) = 0 := by
  have e : rdOk d (k : Int) = true := by simp [rdOk, hd]; omega
  exact ⟨by rw [rdD, if_pos e], by rw [rdE, if_pos e]⟩
/-- A disk that is laid in a box behind what made it. -/
theorem stage1 {G : Heap} {v : Value} {d : Dk} (h : DkR G v d) (hl : d.1.length = 394) {n : Nat} (hn : d.2.length = n) :
    ∃ p k q m A, v = .agg #[.slice p 394 k, .slice q n m] ∧ A = (G.add (rowBlk 2 [.slice none 0 0, .slice none 0 0])).set G.next (some (((rowBlk 2 [.slice none 0 0, .slice none 0 0]).put 0 (.slice p 394 k)).put 1 (.slice q n m))) ∧ A.next = G.next + 1 ∧ Ext G A ∧
      ∀ A', Ext A A' → A'.cell G.next 0 = some (.slice p 394 k) ∧ A'.cell G.next 1 = some (.slice q n m) ∧ DkR A' (.agg #[.slice p 394 k, .slice q n m]) d := by
  obtain ⟨s, c, rfl, hs, hc⟩ := h
  obtain ⟨p, k, rfl⟩ := hs.sliceN hl
  obtain ⟨q, m, rfl⟩ := hc.sliceN hn
  refine ⟨p, k, q, m, _, rfl, rfl, rfl, bxH_ext G _ _, fun A' hE => ?_⟩
  have hb := (BoxD.new G (.slice p 394 k) (.slice q n m)).ext hE
  exact ⟨hb.c0, hb.c1, _, _, rfl, hs.ext ((bxH_ext G _ _).trans hE), hc.ext ((bxH_ext G _ _).trans hE)⟩
/-- .. in a box that stood ahead of it. -/
theorem stage2 {A G : Heap} {v : Value} {d : Dk} (hE : Ext (A.add (rowBlk 2 [.slice none 0 0, .slice none 0 0])) G) (h : OwnD (A.next + 1) G v d) (hl : d.1.length = 394) {n : Nat} (hn : d.2.length = n) :
    ∃ p k q m A2, v = .agg #[.slice p 394 k, .slice q n m] ∧ G.blk A.next = some (rowBlk 2 [.slice none 0 0, .slice none 0 0]) ∧ (∀ o, G.cell A.next o = (rowBlk 2 [.slice none 0 0, .slice none 0 0]).at_ o) ∧ A2 = G.set A.next (some (((rowBlk 2 [.slice none 0 0, .slice none 0 0]).put 0 (.slice p 394 k)).put 1 (.slice q n m))) ∧ A2.next = G.next ∧ A.next < A2.next ∧ Ext A A2 ∧
      ∀ A', Ext A2 A' → A'.cell A.next 0 = some (.slice p 394 k) ∧ A'.cell A.next 1 = some (.slice q n m) ∧ DkR A' (.agg #[.slice p 394 k, .slice q n m]) d := by
  have hn2 := hE.next
  simp at hn2
  have h0 := h
  obtain ⟨s, c, rfl, hs, hc⟩ := h.dk
  obtain ⟨p, k, rfl⟩ := hs.sliceN hl
  obtain ⟨q, m, rfl⟩ := hc.sliceN hn
  have hbk : G.blk A.next = some (rowBlk 2 [.slice none 0 0, .slice none 0 0]) := by rw [hE.blk _ (by simp), blk_add, if_pos rfl]
  refine ⟨p, k, q, m, _, rfl, hbk, fun o => by simp only [Heap.cell, hbk], rfl, rfl, by simp; omega, (((Ext.refl A).add _).trans hE).set (Nat.le_refl _) _, fun A' hE' => ?_⟩
  have hb := (BoxD.set (show A.next < G.next by omega) (.slice p 394 k) (.slice q n m)).ext hE'
  refine ⟨hb.c0, hb.c1, ?_⟩
  have hfr : OwnD (A.next + 1) (G.set A.next (some (((rowBlk 2 [.slice none 0 0, .slice none 0 0]).put 0 (.slice p 394 k)).put 1 (.slice q n m)))) (.agg #[.slice p 394 k, .slice q n m]) d := h0.frame (by simp) fun b h1 h2 _ => blk_set_ne (by omega)
  exact hfr.dk.ext hE'
theorem mayD_ok {v : Value} {d : Dk} {H : Heap} (h : DkR H v d) : call K f_disk_May [v] H = some (.bool (dOk d), H) := by
  obtain ⟨s, c, rfl, h1, h2⟩ := h; exact dskMay_ok s c d H h1 h2
theorem rmayD_ok {v : Value} {d : Dk} {H : Heap} (h : DkR H v d) : call K f_ref1_DiskMay [v] H = some (.bool (dOk d), H) := by
  obtain ⟨s, c, rfl, h1, h2⟩ := h; exact rdskMay_ok s c d H h1 h2
theorem readD_ok {v : Value} {d : Dk} {H : Heap} (h : DkR H v d) (a : Int) : call K f_disk_Read [v, .int .i64 a] H = some (.tuple #[.string (rdD d a), .int .i64 (rdE d a)], H) := by
  obtain ⟨s, c, rfl, h1, h2⟩ := h; exact read_ok s c d a H h1 h2
theorem rreadD_ok {v : Value} {d : Dk} {H : Heap} (h : DkR H v d) (a : Int) : call K f_ref1_Read [v, .int .i64 a] H = some (.tuple #[.string (rdD d a), .int .i64 (rdE d a)], H) := by
  obtain ⟨s, c, rfl, h1, h2⟩ := h; exact rread_ok s c d a H h1 h2
theorem crN_one (keep : ByteArray) (at_ : Int) (S : List ByteArray) (w : Img) : crN keep (-1) at_ S [w] 1 = if oddK keep 0 = true then S.set w.1.toNat w.2 else S := by
  rw [show (1 : Nat) = 0 + 1 from rfl, crN_succ _ _ _ _ _ (by simp), crStep, if_neg (by simp)]; rfl
/-- A sector's cell. -/
theorem DkR.sec {H : Heap} {p : Option Addr} {n k : Nat} {c : Value} {d : Dk} (h : DkR H (.agg #[.slice p n k, c]) d) {i : Nat} (hi : i < d.1.length) : ∃ b o, p = some ⟨b, o, none⟩ ∧ b < H.next ∧ H.cell b (o + i) = some (.string d.1[i]) := by
  obtain ⟨s', c', e, h1, h2⟩ := h
  cases e
  obtain ⟨b, o, h3, h4, h5⟩ := h1.at1 hi
  exact ⟨b, o, h3, h4, h5⟩
theorem newD_w (t : ByteArray) : (newD.1, newD.2 ++ [((3 : Int), t)]).2.length = 1 := rfl
theorem awake2_ok (H : Heap) : call K f_law2_awake [] H = some (.bool true, H) := by
  refine of_wpf (open_pure rfl fc_law2_awake rfl (Nat.le_of_ble_eq_true rfl) ?_)
  obtain ⟨_, G1, c1, E1, D1⟩ := new_ok H.roAll
  obtain ⟨p1, k1, q1, m1, A1, rfl, hA1, n1, X1, F1⟩ := stage1 D1 newD_len (n := 0) rfl
  obtain ⟨a10, a11, d1⟩ := F1 A1 (Ext.refl _)
  -- a
  obtain ⟨f1, f2, f3⟩ : doR newD (false, 3, sec 7) = (newD.1, newD.2 ++ [((3 : Int), sec 7)]) ∧ doE newD (false, 3, sec 7) = 0 ∧ dOk (newD.1, newD.2 ++ [((3 : Int), sec 7)]) = true := do_write newD_ok (k := 3) (t := sec 7) (by omega) (sec_size 7) (by decide)
  obtain ⟨_, G2, c2, E2, _, rfl, o2⟩ := do_ok _ newD false 3 (sec 7) _ (d1.ext ((Ext.refl A1).add (rowBlk 2 [.slice none 0 0, .slice none 0 0])))
  rw [f1] at o2
  rw [f2] at c2
  obtain ⟨p2, k2, q2, m2, A2, rfl, b2, cb2, hA2, n2, l2, X2, F2⟩ := stage2 E2 o2 newD_len (n := 1) rfl
  obtain ⟨a20, a21, d2⟩ := F2 A2 (Ext.refl _)
  -- b
  obtain ⟨g1, g2, g3⟩ := do_flush f3
  obtain ⟨_, G3, c3, E3, _, rfl, o3⟩ := do_ok _ _ true 0 ⟨#[]⟩ _ d2
  rw [g1] at o3
  rw [g2] at c3
  have l3 : (applyW (newD.1, newD.2 ++ [((3 : Int), sec 7)]).1 (newD.1, newD.2 ++ [((3 : Int), sec 7)]).2).length = 394 := (applyW_len _ _).trans newD_len
  obtain ⟨p3, k3, q3, m3, A3, rfl, hA3, n3, X3, F3⟩ := stage1 o3.dk l3 (n := 0) rfl
  obtain ⟨a20', a21', d2'⟩ := F2 A3 (E3.trans X3)
  -- c
  obtain ⟨i1, i2, i3⟩ := do_crash f3 ⟨#[]⟩ (-1) (at_ := 0) ⟨by omega, by omega⟩
  obtain ⟨_, G4, c4, E4, _, rfl, o4⟩ := crash_ok _ _ ⟨#[]⟩ (-1) 0 _ d2'
  rw [i1] at o4
  rw [i2] at c4
  obtain ⟨p4, k4, q4, m4, A4, rfl, hA4, n4, X4, F4⟩ := stage1 o4.dk ((crN_len _ _ _ _ _ _).trans newD_len) (n := 0) rfl
  obtain ⟨a204, a214, d24⟩ := F2 A4 ((E3.trans X3).trans (E4.trans X4))
  -- x
  have r1 := readD_ok d24 3
  -- y
  obtain ⟨j1, j2, j3⟩ := do_crash f3 ⟨#[1]⟩ (-1) (at_ := 0) ⟨by omega, by omega⟩
  obtain ⟨_, G5, c5, E5, _, rfl, o5⟩ := crash_ok _ _ ⟨#[1]⟩ (-1) 0 _ d24
  rw [j1] at o5
  rw [j2] at c5
  obtain ⟨p5, k5, q5, m5, A5, rfl, hA5, n5, X5, F5⟩ := stage1 o5.dk ((crN_len _ _ _ _ _ _).trans newD_len) (n := 0) rfl
  have E25 := (E3.trans X3).trans ((E4.trans X4).trans (E5.trans X5))
  obtain ⟨a15, a15', d15⟩ := F1 A5 (X2.trans E25)
  have r2 := readD_ok d15 394
  -- the step that may not be
  obtain ⟨_, G6, c6, E6, v6, rfl, o6⟩ := do_ok _ newD false 0 ⟨#[]⟩ _ d15
  have e6 : doO newD (false, 0, ⟨#[]⟩) = none := by
    unfold doO; rw [if_pos newD_ok, if_pos rfl, if_neg]
    rintro ⟨h, _⟩; revert h; decide
  rw [doE, e6] at c6
  rw [doR, e6] at o6
  obtain ⟨s6, t6, rfl, S6, T6⟩ := o6.dk
  obtain ⟨p6, k6, rfl⟩ := S6.sliceN (n := 0) rfl
  obtain ⟨q6, m6, rfl⟩ := T6.sliceN (n := 0) rfl
  obtain ⟨A6, hA6⟩ : ∃ A6, A6 = bxH G6 (.slice p6 0 k6) (.slice q6 0 m6) := ⟨_, rfl⟩
  have X6 : Ext G6 A6 := by rw [hA6]; exact bxH_ext _ _ _
  have E26 := E25.trans (E6.trans X6)
  obtain ⟨z1, z1', y1⟩ := F1 A6 (X2.trans E26)
  obtain ⟨z2, z2', y2⟩ := F2 A6 E26
  obtain ⟨z3, z3', y3⟩ := F3 A6 ((E4.trans X4).trans ((E5.trans X5).trans (E6.trans X6)))
  obtain ⟨z4, z4', y4⟩ := F4 A6 ((E5.trans X5).trans (E6.trans X6))
  obtain ⟨z5, z5', y5⟩ := F5 A6 (E6.trans X6)
  have e1 := E1.next; have e2 := E2.next; have e3 := E3.next; have e4 := E4.next; have e5 := E5.next; have e6 := E6.next
  have sd1 := sameDisk_ok _ _ _ _ A6 y4 y1
  have sd2 := sameDisk_ok _ _ _ _ A6 y5 y3
  have my := mayD_ok y1
  rw [newD_ok] at my
  have w0 : crN ⟨#[]⟩ (-1) 0 (newD.1, newD.2 ++ [((3 : Int), sec 7)]).1 (newD.1, newD.2 ++ [((3 : Int), sec 7)]).2 (newD.1, newD.2 ++ [((3 : Int), sec 7)]).2.length = newD.1 := crN_one _ _ _ _
  have w1 : crN ⟨#[1]⟩ (-1) 0 (newD.1, newD.2 ++ [((3 : Int), sec 7)]).1 (newD.1, newD.2 ++ [((3 : Int), sec 7)]).2 (newD.1, newD.2 ++ [((3 : Int), sec 7)]).2.length = newD.1.set 3 (sec 7) := crN_one _ _ _ _
  have w2 : applyW (newD.1, newD.2 ++ [((3 : Int), sec 7)]).1 (newD.1, newD.2 ++ [((3 : Int), sec 7)]).2 = newD.1.set 3 (sec 7) := rfl
  rw [w0, decide_eq_true (show (newD.1, []) = newD from rfl)] at sd1
  rw [w1, w2, decide_eq_true rfl] at sd2
  rw [w2] at y3
  obtain ⟨b, o, hp3, hb, hc3⟩ := y3.sec (i := 3) (by simp [newD, nSec_eq])
  have hs3 : (newD.1.set 3 (sec 7), ([] : List Img)).1[3]'(by simp [newD, nSec_eq]) = sec 7 := by simp
  rw [hs3] at hc3
  obtain ⟨u1, u2⟩ : rdD (newD.1, newD.2 ++ [((3 : Int), sec 7)]) 3 = lookD (newD.1, newD.2 ++ [((3 : Int), sec 7)]) 3 ∧ rdE (newD.1, newD.2 ++ [((3 : Int), sec 7)]) 3 = 0 := do_read f3 (k := 3) (by omega)
  have u3 : lookD (newD.1, newD.2 ++ [((3 : Int), sec 7)]) 3 = sec 7 := by rw [lookD, lookC_snoc]; rfl
  have u4 : rdE newD 394 = 200 := by rw [rdE, if_neg]; simp [rdOk]
  rw [u1, u2, u3] at r1
  rw [u4] at r2
  simp at c6
  rw [bxH] at hA6
  subst hp3
  have zz1 : ¬ G1.next = A1.next := by omega
  simp [natOf_int, sector_ok, c1, ← hA1, a10, a11, c2, run_regd_tr, finD_some, Chk, wanted, zz1, b2, cb2, ← hA2, a20, a21, c3, ← hA3, a20', a21', c4, ← hA4, r1, c5, ← hA5, r2, a15, a15', c6, ← hA6, a204, a214, z1, z1', z2, z2', z3, z3', z4, z4', z5, z5', hc3, my, sd1, sd2]
end Go.AM
