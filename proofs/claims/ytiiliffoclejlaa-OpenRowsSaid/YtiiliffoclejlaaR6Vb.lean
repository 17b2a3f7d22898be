import Derived.Test.YtiiliffoclejlaaR6Va
/- A disk's box and a pager's box that steps write anew. -/
namespace Go.AM
open Go.Proofs
set_option linter.unusedVariables false
set_option linter.unusedSimpArgs false
set_option maxRecDepth 100000
attribute [-simp] ByteArray.size_eq_zero_iff
abbrev putPg (B : Blk) (p : Pg) (t : Value) : Blk := ((((B.put 0 (.int .i64 p.hn)).put 1 (.int .i64 p.hs)).put 2 (.int .i64 p.next)).put 3 (.int .i64 p.used)).put 4 t
structure DP (H0 G : Heap) (bd bp : Nat) (d : Dk) (p : Pg) (s c t : Value) (B5 B7 : Blk) : Prop where
  eb : Ext H0 G
  hd : H0.next ≤ bd
  hp : H0.next ≤ bp
  ld : bd < G.next
  lp : bp < G.next
  ne : bd ≠ bp
  blkd : G.blk bd = some B5
  rod : B5.ro = false
  d0 : B5.at_ 0 = some s
  d1 : B5.at_ 1 = some c
  pg : PgB G bp p.hn p.hs p.next p.used t B7
  dk : DkR G (.agg #[s, c]) d
  tx : Strs G t p.text
  nsd : NotIn s bd
  ncd : NotIn c bd
  ntd : NotIn t bd
  nsp : NotIn s bp
  ncp : NotIn c bp
  ntp : NotIn t bp
theorem DP.ext {H0 G G' : Heap} {bd bp : Nat} {d : Dk} {p : Pg} {s c t : Value} {B5 B7 : Blk} (h : DP H0 G bd bp d p s c t B5 B7) (hE : Ext G G') : DP H0 G' bd bp d p s c t B5 B7 :=
  { h with eb := h.eb.trans hE, ld := Nat.lt_of_lt_of_le h.ld hE.next, lp := Nat.lt_of_lt_of_le h.lp hE.next, blkd := by rw [hE.blk _ h.ld, h.blkd], pg := h.pg.of (hE.blk _ h.lp), dk := h.dk.ext hE, tx := h.tx.ext hE }
theorem DP.cd {H0 G : Heap} {bd bp : Nat} {d : Dk} {p : Pg} {s c t : Value} {B5 B7 : Blk} (h : DP H0 G bd bp d p s c t B5 B7) : G.cell bd = B5.at_ := by funext o; simp only [Heap.cell, h.blkd]
theorem DP.cp {H0 G : Heap} {bd bp : Nat} {d : Dk} {p : Pg} {s c t : Value} {B5 B7 : Blk} (h : DP H0 G bd bp d p s c t B5 B7) : G.cell bp = B7.at_ := h.pg.cell
theorem DP.setP {H0 G : Heap} {bd bp : Nat} {d : Dk} {p q : Pg} {s c t t' : Value} {B5 B7 : Blk} (h : DP H0 G bd bp d p s c t B5 B7) (hT : Strs G t' q.text) (hd : NotIn t' bd) (hp : NotIn t' bp) :
    DP H0 (G.set bp (some (putPg B7 q t'))) bd bp d q s c t' B5 (putPg B7 q t') :=
  { eb := h.eb.set h.hp _, hd := h.hd, hp := h.hp, ld := by simpa using h.ld, lp := by simpa using h.lp, ne := h.ne, blkd := by rw [blk_set_ne h.ne]; exact h.blkd, rod := h.rod, d0 := h.d0, d1 := h.d1,
    pg := { blk := blk_set_self _ _ _, ro := h.pg.ro, p0 := by simp, p1 := by simp, p2 := by simp, p3 := by simp, p4 := by simp }, dk := h.dk.setB h.nsp h.ncp _, tx := hT.setB hp _, nsd := h.nsd, ncd := h.ncd, ntd := hd, nsp := h.nsp, ncp := h.ncp, ntp := hp }
theorem DP.setD {H0 G : Heap} {bd bp : Nat} {d d' : Dk} {p : Pg} {s c t s' c' : Value} {B5 B7 : Blk} (h : DP H0 G bd bp d p s c t B5 B7) (hD : DkR G (.agg #[s', c']) d') (h1 : NotIn s' bd) (h2 : NotIn c' bd) (h3 : NotIn s' bp) (h4 : NotIn c' bp) :
    DP H0 (G.set bd (some ((B5.put 0 s').put 1 c'))) bd bp d' p s' c' t ((B5.put 0 s').put 1 c') B7 :=
  { eb := h.eb.set h.hd _, hd := h.hd, hp := h.hp, ld := by simpa using h.ld, lp := by simpa using h.lp, ne := h.ne, blkd := blk_set_self _ _ _, rod := h.rod, d0 := by simp, d1 := by simp,
    pg := h.pg.of (blk_set_ne (fun e => h.ne e.symm)), dk := hD.setB h1 h2 _, tx := h.tx.setB h.ntd _, nsd := h1, ncd := h2, ntd := h.ntd, nsp := h3, ncp := h4, ntp := h.ntp }
/-- what a step of one of the boxes hands on -/
structure Frm (bd bp : Nat) (G A : Heap) : Prop where
  next : G.next ≤ A.next
  blk : ∀ b, b < G.next → b ≠ bd → b ≠ bp → A.blk b = G.blk b
theorem DP.fresh {H0 G : Heap} {bd bp : Nat} {d : Dk} {p : Pg} {s c t : Value} {B5 B7 : Blk} (h : DP H0 G bd bp d p s c t B5 B7) (hr : pgRoom p = true) :
    ∃ g q n k r m A, call K f_ref1_Fresh [pgV p t] G = some (.tuple #[.slice q 195 n, pgV (freshQ p) (.slice r 48 m), .int .i64 0], g) ∧ g.blk bp = some B7 ∧ g.cell bp = B7.at_ ∧ k = g ∧ A = g.set bp (some (putPg B7 (freshQ p) (.slice r 48 m))) ∧ Ext G g ∧
      DP H0 g bd bp d p s c t B5 B7 ∧ DP H0 A bd bp d (freshQ p) s c (.slice r 48 m) B5 (putPg B7 (freshQ p) (.slice r 48 m)) ∧ Rows encSt 3 A (.slice q 195 n) (freshS p) := by
  obtain ⟨_, g, u, X, sv, tv, rfl, oS, oT, _⟩ := rfresh_ok p t G h.tx
  rw [show freshR p = (freshS p, freshQ p, 0) from if_pos hr] at u oS oT
  simp only at u oS oT
  obtain ⟨q, n, rfl⟩ := (oS.rows encSt_len).sliceN (freshS_len p)
  obtain ⟨r, m, rfl⟩ := (oT.rows encS_len).sliceN (n := 48) (pgRoom_of hr).2.2.2.1
  have hg := h.ext X
  exact ⟨g, q, n, g, r, m, _, u, hg.pg.blk, hg.cp, rfl, rfl, X, hg, hg.setP (oT.rows encS_len) (oT.notIn h.ld) (oT.notIn h.lp), (oS.rows encSt_len).setB (oS.notIn h.lp) _⟩
theorem DP.commit {H0 G : Heap} {bd bp : Nat} {d : Dk} {p : Pg} {s c t iv : Value} {is : List Img} {B5 B7 : Blk} (h : DP H0 G bd bp d p s c t B5 B7) (hI : Imgs H0 iv is) (hl : (comm p is).2.1.text.length = 48) (he : (comm p is).2.2 = 0) :
    ∃ g q n r m A, call K f_ref1_Commit [pgV p t, iv] G = some (.tuple #[.slice q (comm p is).1.length n, pgV (comm p is).2.1 (.slice r 48 m), .int .i64 0], g) ∧ g.blk bp = some B7 ∧ g.cell bp = B7.at_ ∧ A = g.set bp (some (putPg B7 (comm p is).2.1 (.slice r 48 m))) ∧ Ext G g ∧
      DP H0 g bd bp d p s c t B5 B7 ∧ DP H0 A bd bp d (comm p is).2.1 s c (.slice r 48 m) B5 (putPg B7 (comm p is).2.1 (.slice r 48 m)) ∧ Rows encSt 3 A (.slice q (comm p is).1.length n) (comm p is).1 := by
  obtain ⟨_, g, u, X, sv, tv, rfl, oS, oT, _⟩ := rcommit_ok p t iv is G h.tx (hI.ext h.eb)
  rw [he] at u
  obtain ⟨q, n, rfl⟩ := (oS.rows encSt_len).slice
  obtain ⟨r, m, rfl⟩ := (oT.rows encS_len).sliceN hl
  have hg := h.ext X
  exact ⟨g, q, n, r, m, _, u, hg.pg.blk, hg.cp, rfl, X, hg, hg.setP (oT.rows encS_len) (oT.notIn h.ld) (oT.notIn h.lp), (oS.rows encSt_len).setB (oS.notIn h.lp) _⟩
theorem DP.done {H0 G : Heap} {bd bp : Nat} {d d' : Dk} {p : Pg} {s c t sv : Value} {ss : List Stp} {B5 B7 : Blk} (h : DP H0 G bd bp d p s c t B5 B7) (hs : Rows encSt 3 G sv ss) (hd : done7 d ss = d') (h1 : d'.1.length = 394) (h2 : d'.2.length = 0) :
    ∃ g q n r m A, call K f_law7_done [.agg #[s, c], sv] G = some (.agg #[.slice q 394 n, .slice r 0 m], g) ∧ g.blk bd = some B5 ∧ g.cell bd = B5.at_ ∧ A = g.set bd (some ((B5.put 0 (.slice q 394 n)).put 1 (.slice r 0 m))) ∧ Ext G g ∧
      DP H0 A bd bp d' p (.slice q 394 n) (.slice r 0 m) t ((B5.put 0 (.slice q 394 n)).put 1 (.slice r 0 m)) B7 ∧ ((s = .slice q 394 n ∧ c = .slice r 0 m ∧ d' = d) ∨ (OwnD G.next g (.agg #[.slice q 394 n, .slice r 0 m]) d')) := by
  obtain ⟨v, g, u, X, D, hor⟩ := done7_ok _ sv d ss G h.dk hs
  rw [hd] at D hor
  have hg := h.ext X
  obtain ⟨s', c', rfl, hs', hc'⟩ := D
  obtain ⟨q, n, rfl⟩ := hs'.sliceN h1
  obtain ⟨r, m, rfl⟩ := hc'.sliceN h2
  have far : ∀ b, b < G.next → NotIn s b → NotIn c b → NotIn (.slice q 394 n) b ∧ NotIn (.slice r 0 m) b := fun b hb k1 k2 => by
    rcases hor with ⟨e, _⟩ | ho
    · obtain ⟨rfl, rfl⟩ : Value.slice q 394 n = s ∧ Value.slice r 0 m = c := by simpa using e
      exact ⟨k1, k2⟩
    · exact ho.far3 hb
  have f1 := far bd h.ld h.nsd h.ncd
  have f2 := far bp h.lp h.nsp h.ncp
  refine ⟨g, q, n, r, m, _, u, hg.blkd, hg.cd, rfl, X, hg.setD ⟨_, _, rfl, hs', hc'⟩ f1.1 f1.2 f2.1 f2.2, ?_⟩
  rcases hor with ⟨e, ed⟩ | ho
  · obtain ⟨rfl, rfl⟩ : Value.slice q 394 n = s ∧ Value.slice r 0 m = c := by simpa using e
    exact .inl ⟨rfl, rfl, ed⟩
  · exact .inr ho
/-- the first disk and the blank pager, each in its box -/
theorem DP.init {H0 G3 A3 G4 A4 : Heap} {d : Dk} {p : Pg} {s c t : Value} (hE : Ext H0 G3) (hA3 : A3 = (G3.add (rowBlk 2 [.slice none 0 0, .slice none 0 0])).set G3.next (some (((rowBlk 2 [.slice none 0 0, .slice none 0 0]).put 0 s).put 1 c))) (hD : DkR G3 (.agg #[s, c]) d) (E4 : Ext A3 G4) (hT : Strs G4 t p.text) (ht : NotIn t G3.next)
    (hA4 : A4 = (G4.add (rowBlk 5 [.int .i64 0, .int .i64 0, .int .i64 0, .int .i64 0, .slice none 0 0])).set G4.next (some (putPg (rowBlk 5 [.int .i64 0, .int .i64 0, .int .i64 0, .int .i64 0, .slice none 0 0]) p t))) :
    DP H0 A4 G3.next G4.next d p s c t (((rowBlk 2 [.slice none 0 0, .slice none 0 0]).put 0 s).put 1 c) (putPg (rowBlk 5 [.int .i64 0, .int .i64 0, .int .i64 0, .int .i64 0, .slice none 0 0]) p t) := by
  have X3 : Ext G3 A3 := by rw [hA3]; exact bxH_ext _ _ _
  have n3 : A3.next = G3.next + 1 := by rw [hA3]; rfl
  have X4 : Ext G4 A4 := by rw [hA4]; exact ((Ext.refl _).add _).set (Nat.le_refl _) _
  have n4 : A4.next = G4.next + 1 := by rw [hA4]; rfl
  have e4 := E4.next
  have h0 := hE.next
  have f1 := hD.far (Nat.le_refl _)
  have f2 := hD.far (b := G4.next) (by omega)
  exact { eb := hE.trans (X3.trans (E4.trans X4)), hd := h0, hp := by omega, ld := by omega, lp := by omega, ne := by omega, blkd := by rw [(E4.trans X4).blk _ (by omega), hA3]; simp, rod := rfl, d0 := by simp, d1 := by simp,
          pg := { blk := by rw [hA4]; simp, ro := rfl, p0 := by simp, p1 := by simp, p2 := by simp, p3 := by simp, p4 := by simp }, dk := hD.ext (X3.trans (E4.trans X4)), tx := hT.ext X4, nsd := f1.1, ncd := f1.2, ntd := ht, nsp := f2.1, ncp := f2.2, ntp := hT.far (Nat.le_refl _) }
theorem applyI_nil (b : List ByteArray) : applyI b [] = b := rfl
theorem comm_text {p : Pg} {is : List Img} (hr : pgRoom p = true) (hi : imOk (-1) is = true) : (comm p is).2.1.text = applyI p.text is := by
  rw [comm, if_pos ⟨hr, hi⟩]
  by_cases hn : is = []
  · rw [if_pos hn, hn]; rfl
  · rw [if_neg hn]
    have hb : (baseP p is).text = p.text := by unfold baseP; split <;> rfl
    simp only [commQ, hb]
end Go.AM
