import Derived.Test.YtbgidagbogpfkaaR7J
/- Contracts: Commit. -/
namespace Go.AM
open Go.Proofs
set_option linter.unusedVariables false
set_option linter.unusedSimpArgs false
set_option maxRecDepth 100000
attribute [-simp] ByteArray.size_eq_zero_iff
theorem strs2 (s t : ByteArray) (H : Heap) : Strs (H.add (rowBlk 1 [.string s, .string t])) (.slice (some ⟨H.next, 0, none⟩) 2 5) [s, t] :=
  ⟨by simp, _, _, rfl, .inr ⟨H.next, 0, rfl, by simp, by simp, fun i hi j hj => by
    have hj0 : j = 0 := by omega
    subst hj0
    match i, hi with
    | 0, _ => simp
    | 1, _ => simp⟩⟩
/-- One more in the row. -/
theorem OwF.ins {n0 : Nat} {G X : Heap} {v : Value} {rs : List (Inf × Value)} (h : OwF n0 G v rs) (hn0 : n0 ≤ G.next) (i : Nat) (x : Inf × Value) (hx : Ow encF 3 n0 G x.2 x.1.files) (hv : Dis v x.2) (hd : ∀ p ∈ rs, Dis p.2 x.2) (hXn : X.next = G.next) (hX : ∀ k, blkV v ≠ some k → X.blk k = G.blk k) (hi : i ≤ rs.length) (hl : rs.length ≤ 1000) :
    OwF n0 (X.add (rowBlk 5 ((rs.take i ++ x :: rs.drop i).flatMap encP))) (.slice (some ⟨G.next, 0, none⟩) (rs.length + 1) (2 * (rs.length + 1))) (rs.take i ++ x :: rs.drop i) := by
  have hlen : (rs.take i ++ x :: rs.drop i).length = rs.length + 1 := by rw [List.length_append, List.length_take, List.length_cons, List.length_drop]; omega
  have hmem : ∀ p ∈ rs.take i ++ x :: rs.drop i, p = x ∨ p ∈ rs := fun p hp => by
    rcases List.mem_append.1 hp with h | h
    · exact .inr (List.mem_of_mem_take h)
    · rcases List.mem_cons.1 h with h | h
      · exact .inl h
      · exact .inr (List.mem_of_mem_drop h)
  have hf : ∀ p ∈ rs.take i ++ x :: rs.drop i, Ow encF 3 n0 G p.2 p.1.files ∧ Dis v p.2 := fun p hp => by
    rcases hmem p hp with rfl | h'
    · exact ⟨hx, hv⟩
    · exact ⟨h.fils p h', h.sep p h'⟩
  refine ⟨?_, fun p hp => ?_, fun p hp b hb => ?_, ?_⟩
  · have := Ow.new (enc := encP) (sz := 5) (n0 := n0) (H := X) (xs := rs.take i ++ x :: rs.drop i) hXn.symm hn0 (by omega) (by simp) rfl
    rw [hlen] at this; exact this
  · obtain ⟨h1, h2⟩ := hf p hp
    refine (h1.frame (H' := X) (by omega) fun b hb => hX b fun e => h2 b e hb).ext ((Ext.refl X).add _)
  · cases hb
    intro e
    have := ((hf p hp).1.below _ e).2
    simp only at this; omega
  · rw [List.pairwise_middle Dis.symm, List.take_append_drop]
    exact List.pairwise_cons.2 ⟨fun p hp => (hd p hp).symm, h.dis⟩
def insAt {α : Type} (xs : List α) (i : Nat) (x : α) : List α := xs.take i ++ x :: xs.drop i
theorem infs_ins (rs : List (Inf × Value)) (i : Nat) (x : Inf × Value) : infs (rs.take i ++ x :: rs.drop i) = insAt (infs rs) i x.1 := by simp [infs, insAt, List.map_take, List.map_drop]
def commitS (xs : List Inf) (name to : ByteArray) : List Inf × Int :=
  if namedE xs name [to] ≠ 0 then ([], namedE xs name [to]) else
  match xs[posN (xs.map Inf.name) name]? with
  | none => ([], 0)
  | some x =>
    if x.kind ≠ 0 then ([], 1905) else if hasN (xs.map Inf.name) to = true then ([], 1902) else
    (insAt (cutAt xs (posN (xs.map Inf.name) name)) (posN ((cutAt xs (posN (xs.map Inf.name) name)).map Inf.name) to) { x with name := to, kind := 2 }, 0)
theorem sorted_cut {xs : List Inf} (h : Sorted (xs.map Inf.name)) (i : Nat) : Sorted ((cutAt xs i).map Inf.name) := by
  refine List.Pairwise.sublist ?_ h
  refine List.Sublist.map _ ?_
  have h1 : (xs.drop (i + 1)).Sublist (xs.drop i) := by rw [← List.drop_drop]; exact List.drop_sublist _ _
  have := (List.Sublist.refl (xs.take i)).append h1
  rwa [List.take_append_drop] at this
theorem posN_le (ns : List ByteArray) (s : ByteArray) : posN ns s ≤ ns.length := by unfold posN; exact (List.takeWhile_sublist _).length_le
theorem commit_ok (v : Value) (rs : List (Inf × Value)) (name to : ByteArray) (H : Heap) (h : Fo H v rs) (hz : FoZ rs) (hw : FoW rs) (hs : name.size ≤ 140737488355328) (hs2 : to.size ≤ 140737488355328) :
    wpf (call K f_forest_Commit [v, .string name, .string to] H) (Ret H (commitS (infs rs) name to)) := by
  have E0 := (Ext.refl H).add (rowBlk 1 [.string name, .string to])
  obtain ⟨r, G, hc, hE, u, rfl, hu1, hu2⟩ := named_ok v _ rs name [to] _ (h.ext E0) hz hw (strs2 name to H) (by simp; exact ⟨hs, hs2⟩) (by simp)
  have hE0 := E0.trans hE
  refine open_plain rfl fc_forest_Commit rfl (Nat.le_of_ble_eq_true rfl) ?_
  by_cases hn : namedE (infs rs) name [to] = 0
  · obtain ⟨rs', hin, ho⟩ := hu2 hn
    obtain ⟨hpos, hidx, hmay, h6⟩ := named_pos hn
    obtain ⟨_, hsort, _, _⟩ := mayB_inv hmay
    have hll : rs'.length = (infs rs).length := by rw [← infs_length rs', hin]
    rw [hn] at hc
    simp only [if_pos] at hc
    generalize hpp : posN ((infs rs).map Inf.name) name = pos at *
    have hpr : pos < rs'.length := by omega
    have hget : (infs rs)[pos]? = some rs'[pos].1 := by rw [← hin]; simp [infs, List.getElem?_eq_getElem hpr]
    have hnames : rs'.map keyP = (infs rs).map Inf.name := by rw [← infs_names, hin]
    have hat : ∀ G', Ext G G' → call K f_forest_At [u, .string to] G' = some (.tuple #[.int .i64 (posN ((infs rs).map Inf.name) to : Int), .bool (hasN ((infs rs).map Inf.name) to)], G') := fun G' hG => by
      have := atInfo_ok u rs' to G' (ho.fo.rows.ext hG) (by rw [hnames]; exact hsort) (by omega) ho.fo.one
      rw [hnames] at this; exact this
    have hmem := List.getElem_mem hpr
    have hx1 := ho.fo.one _ hmem
    have hxf := ho.fils _ hmem
    have hxs := ho.sep _ hmem
    have hne : rs' ≠ [] := fun e => by rw [e] at hpr; simp at hpr
    obtain ⟨b, B, c, hv, h2, h3, h4, h5, hB, hro, hez, hcells, hput⟩ := ho.out.blkOf encP_len hne
    have hxd : ∀ p ∈ rs'.take pos ++ rs'.drop (pos + 1), Dis p.2 rs'[pos].2 := fun p hp => by
      have hpw := List.pairwise_iff_getElem.1 ho.dis
      rcases List.mem_append.1 hp with h | h
      · obtain ⟨k, hk, rfl⟩ := List.mem_iff_getElem.1 h
        rw [List.length_take] at hk
        rw [List.getElem_take]
        exact hpw k pos (by omega) hpr (by omega)
      · obtain ⟨k, hk, rfl⟩ := List.mem_iff_getElem.1 h
        rw [List.length_drop] at hk
        rw [List.getElem_drop]
        exact (hpw pos (pos + 1 + k) hpr (by omega) (by omega)).symm
    generalize hxx : rs'[pos] = xv at *
    obtain ⟨x, fv⟩ := xv
    subst hv
    have cg : ∀ k (hk : k < 5), G.cell b (pos * 5 + k) = (encP (x, fv))[k]? := fun k hk => by
      simp only [Heap.cell, hB]; rw [hcells pos hpr k hk, hxx]
    have c0 := cg 0 (by omega)
    have c1 := cg 1 (by omega)
    have c2 := cg 2 (by omega)
    have c3 := cg 3 (by omega)
    have c4 := cg 4 (by omega)
    simp at c0 c1 c2 c3 c4 hx1
    have hbn : b ≠ G.next := by omega
    have hat1 : ∀ X Y, call K f_forest_At [.slice (some ⟨b, 0, none⟩) rs'.length c, .string to] ((G.add X).set G.next Y) = some (.tuple #[.int .i64 (posN ((infs rs).map Inf.name) to : Int), .bool (hasN ((infs rs).map Inf.name) to)], (G.add X).set G.next Y) :=
      fun X Y => hat _ (((Ext.refl G).add X).set (Nat.le_refl _) Y)
    by_cases hk0 : x.kind = 0
    case neg =>
      have hsp : commitS (infs rs) name to = ([], 1905) := by
        simp only [commitS, hn, hpp, hget]
        rw [if_neg (by simp), if_pos hk0]
      rw [hsp]
      simp [hc, hpr, c0, c1, c2, c3, c4, hx1, hk0]
      exact Ret.err ((hE0.add _).set hE0.next _) (by decide)
    cases hh : hasN ((infs rs).map Inf.name) to with
    | true =>
      have hsp : commitS (infs rs) name to = ([], 1902) := by
        simp only [commitS, hn, hpp, hget]
        rw [if_neg (by simp), if_neg (by simpa using hk0), if_pos hh]
      rw [hsp]
      rw [hh] at hat1
      simp [hc, hpr, c0, c1, c2, c3, c4, hx1, hk0, hat1]
      exact Ret.err ((hE0.add _).set hE0.next _) (by decide)
    | false =>
      rw [hh] at hat1
      have hw1 : IntKind.i64.wrap ((pos : Int) + 1) = (pos : Int) + 1 := by rw [wrap_i64] <;> omega
      generalize hX0 : rowBlk 5 [(.string ⟨#[]⟩ : Value), .int .i64 0, .string ⟨#[]⟩, .string ⟨#[]⟩, .slice none 0 0] = X0
      have hX0a : ∀ j, j < 5 → (X0.at_ j).isSome = true := fun j hj => by
        subst hX0
        match j, hj with
        | 0, _ => rfl
        | 1, _ => rfl
        | 2, _ => rfl
        | 3, _ => rfl
        | 4, _ => rfl
      have hX0r : X0.ro = false := by subst hX0; rfl
      obtain ⟨B2, hB2⟩ : ∃ B2, B2 = (((((((X0.put 0 (.string x.name)).put 1 (.int .i64 x.kind)).put 2 (.string x.parent)).put 3 (.string x.label)).put 4 fv).put 0 (.string to)).put 1 (.int .i64 2)) := ⟨_, rfl⟩
      have E2 : Ext G ((G.add X0).set G.next (some B2)) := ((Ext.refl G).add X0).set (Nat.le_refl _) _
      obtain ⟨r2, G3, hd, b', B', hb1, hb2, rfl, hro3, ho3⟩ := delInfo_ok (ho.out.ext E2) pos hpr (encP_one ho.fo.one) (by omega)
      cases hb1
      have hcut := (ho.ext E2).cut rfl hb2 ho3
      obtain ⟨p2, q2, hr2⟩ := hcut.fo.rows.slice
      have hcl : (rs'.take pos ++ rs'.drop (pos + 1)).length = rs'.length - 1 := by rw [List.length_append, List.length_take, List.length_drop]; omega
      have hsc := sorted_cut hsort pos
      have hcn : (rs'.take pos ++ rs'.drop (pos + 1)).map keyP = (cutAt (infs rs) pos).map Inf.name := by rw [← infs_names, infs_cut, hin]
      have hat3 := atInfo_ok r2 _ to _ hcut.fo.rows (by rw [hcn]; exact hsc) (by omega) hcut.fo.one
      rw [hcn] at hat3
      have hple := posN_le ((cutAt (infs rs) pos).map Inf.name) to
      rw [← hcn, List.length_map] at hple
      rw [hcn] at hple
      generalize hat_ : posN ((cutAt (infs rs) pos).map Inf.name) to = at2 at *
      generalize hG3 : ((G.add X0).set G.next (some B2)).set b (some B') = G3 at *
      have hG3n : G3.next = G.next + 1 := by subst hG3; simp
      have hG3c : ∀ o, G3.cell G.next o = B2.at_ o := fun o => by
        subst hG3
        rw [cell_set_ne (fun e => hbn e.symm), cell_set_self]
      have E3 : Ext (H.add (rowBlk 1 [.string name, .string to])) G3 := by
        subst hG3
        exact (hE.trans E2).set h4 _
      have d0 : G3.cell G.next 0 = some (.string to) := by rw [hG3c, hB2]; rfl
      have d1 : G3.cell G.next 1 = some (.int .i64 2) := by rw [hG3c, hB2]; rfl
      have d2 : G3.cell G.next 2 = some (.string x.parent) := by rw [hG3c, hB2]; rfl
      have d3 : G3.cell G.next 3 = some (.string x.label) := by rw [hG3c, hB2]; rfl
      have d4 : G3.cell G.next 4 = some fv := by rw [hG3c, hB2]; rfl
      have hXf : Ow encF 3 (H.add (rowBlk 1 [.string name, .string to])).next G3 fv x.files := by
        subst hG3
        exact (hxf.ext E2).setB (hxs b rfl) _
      have hvr : Dis r2 fv := fun y hy => by rw [hb2] at hy; cases hy; exact hxs b rfl
      have h1' : (.string to : Value).oneCell' = true := rfl
      obtain ⟨X, hXn, hXb, hins⟩ := insP_ok (hcut.out.ext ((Ext.refl G3).add (rowBlk 5 (encP ({ x with name := to, kind := 2 }, fv))))) at2 (by omega) ({ x with name := to, kind := 2 }, fv) G3.next 3 (row_of 5 0 rfl fun j hj => by
        rw [Nat.zero_add, cell_add_new]; rfl) (by simp [rwB]) (fun e => by rw [hb2] at e; have h9 : b = G3.next := Option.some.inj e; omega) hx1 (by omega)
      have hfin := (hcut.ext ((Ext.refl G3).add (rowBlk 5 (encP ({ x with name := to, kind := 2 }, fv))))).ins (Nat.le_trans hE.next (by show G.next ≤ G3.next + 1; omega)) at2 ({ x with name := to, kind := 2 }, fv) (hXf.ext ((Ext.refl G3).add _)) hvr hxd hXn hXb (by omega) (by omega)
      have hsp : commitS (infs rs) name to = (insAt (cutAt (infs rs) pos) at2 { x with name := to, kind := 2 }, 0) := by
        simp only [commitS, hn, hpp, hget]
        rw [if_neg (by simp), if_neg (by simpa using hk0), if_neg (by rw [hh]; decide), hat_]
      rw [hsp]
      have hinfs : infs ((rs'.take pos ++ rs'.drop (pos + 1)).take at2 ++ ({ x with name := to, kind := 2 }, fv) :: (rs'.take pos ++ rs'.drop (pos + 1)).drop at2) = insAt (cutAt (infs rs) pos) at2 { x with name := to, kind := 2 } := by
        rw [infs_ins, infs_cut, hin]
      have hEf : Ext H (X.add (rowBlk 5 (((rs'.take pos ++ rs'.drop (pos + 1)).take at2 ++ ({ x with name := to, kind := 2 }, fv) :: (rs'.take pos ++ rs'.drop (pos + 1)).drop at2).flatMap encP))) := by
        have E4 := E3.add (rowBlk 5 (encP ({ x with name := to, kind := 2 }, fv)))
        have E5 : Ext (H.add (rowBlk 1 [.string name, .string to])) X := ⟨by rw [hXn]; exact E4.next, fun k hk => by
          rw [hXb k (fun e => by rw [hb2] at e; have h9 : b = k := Option.some.inj e; omega)]; exact E4.blk k hk⟩
        exact (E0.trans E5).add _
      generalize (rs'.take pos ++ rs'.drop (pos + 1)).take at2 ++ ({ x with name := to, kind := 2 }, fv) :: (rs'.take pos ++ rs'.drop (pos + 1)).drop at2 = rsf at *
      generalize (rs'.take pos ++ rs'.drop (pos + 1)).length = lnf at *
      subst hX0
      rw [hB2, hk0] at hd
      simp [hc, hpr, c0, c1, c2, c3, c4, hx1, hk0, hat1, hw1, hd, hat3, d0, d1, d2, d3, d4, hins]
      exact ⟨hEf, _, rfl, fun h => absurd rfl h, fun _ => ⟨rsf, hinfs, hfin.low (by simp)⟩⟩
  · have hsp : commitS (infs rs) name to = ([], namedE (infs rs) name [to]) := by simp [commitS, hn]
    rw [hsp]
    rw [hu1 hn] at hc
    rw [if_neg hn] at hc
    simp [hc, hn]
    exact Ret.err hE0 hn
end Go.AM
