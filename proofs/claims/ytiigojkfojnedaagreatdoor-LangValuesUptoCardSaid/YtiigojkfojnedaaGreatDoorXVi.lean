/- LangValues: an index of one's own; how deep an index is. -/
import Derived.Test.YtiigojkfojnedaaGreatDoorXVh
set_option linter.unusedVariables false
set_option linter.unusedSimpArgs false
set_option maxRecDepth 100000
set_option maxHeartbeats 4000000
namespace Go.Abs.Tz
open Go.Abs
variable {u : Nat}

theorem copies_take (l : List Idx) (i : Nat) (h : i < l.length) : Idx.avs (copies (l.take (i + 1))) = Idx.avs (copies (l.take i)) ++ [l[i].copy.av] := by
  rw [copies_eq, copies_eq, Idx.avs_eq, Idx.avs_eq, List.take_succ_eq_append_getElem h, List.map_append, List.map_append]
  rfl
theorem shaped_avs (l : List Idx) : (Idx.avs l).all (shaped true 4) = true := by
  rw [Idx.avs_eq]
  simp only [List.all_map, List.all_eq_true, Function.comp]
  intro x _
  obtain ⟨k, n, s, c, l⟩ := x
  simp [Idx.av, shaped]
theorem frz_own (bs : List Blk) (N : Nat) (k n : Int) (s : List Nat) (c : Cap) (l : List Idx) (hl : Idx.Oks l) :
    frz bs N 8 (.agg [.int .i64 k, .int .i64 n, .str s, .list c (Idx.avs l)]) = .agg [.int .i64 k, .int .i64 n, .str s, .list (c.exp N false) (Idx.avs l)] := by
  have h : (Idx.avs l).map (frz bs N 8) = Idx.avs l := by
    rw [Idx.avs_eq, List.map_map]
    exact List.map_congr_left fun y hy => Idx.frz_av bs N 8 y (Idx.oks_mem hl y hy)
  simp only [frz] at h
  simp only [frz, frzW, frzWs, frzWs_eq, h]
theorem copies_ok (l : List Idx) : Idx.Oks (copies l) := by
  rw [copies_eq]
  induction l with
  | nil => trivial
  | cons a l ih => exact ⟨copy_ok a, ih⟩
theorem set_last (B : List Blk) (x y : Blk) : (B ++ [x]).set B.length y = B ++ [y] := by simp

theorem f21 (x : Idx) : x.Ok → x.cnt < 1000000000000 → ∀ m, cvl (C u) (.fn (.func 21) [] []) [x.av] m = some (x.copy.av, m) := by
  refine Idx.ind' (Q := fun x => x.Ok → x.cnt < 1000000000000 → ∀ m, cvl (C u) (.fn (.func 21) [] []) [x.av] m = some (x.copy.av, m)) (fun k n s c l ih hok hc m => ?_) x
  refine call_runs (g := g21) (by rfl) (by rfl) (by rfl) ?_
  simp only [List.map_cons, List.map_nil, Idx.exp_av _ _ _ hok, g21, c21]
  simp only [Idx.cnt] at hc
  have hll := Idx.cnts_ge l
  let K : St → Prop := fun st => getE st.env 1 = .lptr 1 0 0 ∧ lget st.loc 1 = some (0, .cells [.int .i64 k, .int .i64 n, .str s, .list c (Idx.avs l)])
  refine Runs.seq' (M := fun st => K st ∧ st.mem = { blks := m.blks, touched := [] } ∧ getE st.env 2 = .lptr 2 0 0 ∧ lget st.loc 2 = some (0, .cells [.int .i64 0, .int .i64 0, .str [], .list .nil []])) (by simp [K, Idx.av, newVer, exec, aops, astep, wantedA, aop, evO, setO, setU, getE, getE_setE, lget, lget_lset, aBin, aInt, aUn, AV.cells, newVar, padd, rd, wr, asElem, single, splice, aStr, adraw, ascan]) fun s1 ⟨⟨h1, h2⟩, h3, h4, h5⟩ => ?_
  refine Runs.seq' (M := fun st => K st ∧ st.mem = { blks := m.blks, touched := [] } ∧ getE st.env 2 = .lptr 2 0 0 ∧ lget st.loc 2 = some (0, .cells [.int .i64 0, .int .i64 0, .str [], .list .nil []]) ∧
    ∃ v, getE st.env 3 = .lptr 3 v 0 ∧ lget st.loc 3 = some (v, .cells [.int .i64 k, .int .i64 n, .str s, .list .nil []])) (by simp [K, exec, aops, astep, wantedA, aop, evO, setO, setU, getE, getE_setE, lget, lget_lset, aBin, aInt, aUn, AV.cells, newVar, padd, rd, wr, asElem, single, splice, aStr, adraw, ascan, fills, h1, h2, h3, h4, h5]) fun s1 ⟨⟨h1, h2⟩, h3, h4, h5, v, h6, h7⟩ => ?_
  let cp : Nat → Cap := fun i => if i = 0 then .nil else .own m.blks.length
  let bk : Nat → List Blk := fun i => if i = 0 then [] else [.front i 4 27]
  let J : Nat → St → Prop := fun i st => getE st.env 2 = .lptr 2 0 0 ∧ lget st.loc 2 = some (0, .cells [.int .i64 0, .int .i64 0, .str [], .list .nil []]) ∧ getE st.env 3 = .lptr 3 v 0 ∧ lget st.loc 3 = some (v, .cells [.int .i64 k, .int .i64 n, .str s, .list (cp i) (Idx.avs (copies (l.take i)))]) ∧
    st.mem = { blks := m.blks ++ bk i, touched := [] }
  refine Runs.seq (M := J l.length) ?_ fun s3 ⟨h4, h5, h6, h7, h3⟩ => ?_
  · let I : Nat → St → Prop := fun i st => J i st ∧ getE st.env 14 = .list c (Idx.avs l) ∧ getE st.env 15 = .int .i64 l.length ∧ getE st.env 16 = .int .i64 i
    refine Runs.seq' (M := I 0) (by simp [I, J, cp, bk, copies, Idx.avs, exec, aops, astep, wantedA, aop, evO, setO, setU, getE, getE_setE, lget, lget_lset, aBin, aInt, aUn, AV.cells, newVar, padd, rd, wr, asElem, single, splice, aStr, adraw, ascan, h1, h2, h3, h4, h5, h6, h7, avs_len]) fun s4 hI => ?_
    refine Runs.block (Runs.loop (I := I) l.length hI fun i st hi hst => ?_)
    obtain ⟨⟨h4, h5, h6, h7, h3⟩, q1, q2, q3⟩ := hst
    by_cases hlt : i < l.length
    · have hw2 : IntKind.wrap .i64 ((i : Int) + 1) = (i : Int) + 1 := wrap_i64 (by omega) (by omega)
      left
      refine ⟨hlt, ?_⟩
      have hg := avs_get l i hlt
      have ht := copies_take l i hlt
      have ihy := ih l[i] (List.getElem_mem hlt) (Idx.oks_mem hok.2 _ (List.getElem_mem hlt)) (by have := Idx.cnt_mem (List.getElem_mem hlt); omega)
      generalize l[i] = y at hg ihy ht
      obtain ⟨k', n', s', c2, l'⟩ := y
      obtain ⟨c3, hc3⟩ : ∃ c3, (Idx.mk k' n' s' c2 l').copy = .mk k' n' s' c3 (copies l') := ⟨_, rfl⟩
      rw [hc3] at ihy ht
      simp only [Idx.av] at hg ihy ht
      have hsh := shaped_avs (copies (l.take i))
      have hle : (Idx.avs (copies (l.take i))).length = i := by rw [avs_len, copies_len]; simp; omega
      have hnn : (Idx.avs (copies l')).map nol = Idx.avs (copies l') := by rw [Idx.avs_eq, List.map_map]; exact List.map_congr_left fun y _ => Idx.nol_av y
      have hb1 : (i + 1) * 56 ≤ 140737488355328 := by omega
      have hb2 : i + 1 ≤ 140737488355328 := by omega
      generalize Idx.avs (copies (l.take i)) = pre at h7 ht hsh hle
      by_cases hi0 : i = 0
      · subst hi0
        have hp : pre = [] := List.eq_nil_of_length_eq_zero hle
        subst hp
        simp only [cp, bk, if_true] at h7 h3
        simp [I, J, cp, bk, l21_0, exec, aops, astep, wantedA, aop, evO, setO, setU, getE, getE_setE, lget, lget_lset, aBin, aInt, aUn, AV.cells, newVar, padd, rd, wr, asElem, single, splice, aStr, adraw, ascan, chkLoad, isSt, h3, h4, h5, h6, h7, q1, q2, q3, hlt, hg, ihy, hw2, avs_len, aApp, shaped, Mem.nol, nol, nols_eq, hnn, Mem.push, ht]
        have hwn : IntKind.wrap .i64 1 = 1 := by decide
        simp [hwn]
      · simp only [cp, bk, hi0, if_false] at h7 h3
        simp [I, J, cp, bk, l21_0, exec, aops, astep, wantedA, aop, evO, setO, setU, getE, getE_setE, lget, lget_lset, aBin, aInt, aUn, AV.cells, newVar, padd, rd, wr, asElem, single, splice, aStr, adraw, ascan, chkLoad, isSt, h3, h4, h5, h6, h7, q1, q2, q3, hlt, hg, ihy, hw2, avs_len, aApp, shaped, Mem.nol, nol, nols_eq, hnn, Mem.put, ht, hi0, hsh, hle, hb1, hb2, set_last]
    · right
      have : i = l.length := by omega
      subst this
      simp [J, l21_0, exec, aops, astep, wantedA, aop, evO, setO, setU, getE, getE_setE, lget, lget_lset, aBin, aInt, aUn, AV.cells, newVar, padd, rd, wr, asElem, single, splice, aStr, adraw, ascan, h3, h4, h5, h6, h7, q1, q2, q3]
  · simp only [List.take_length] at h7
    have hfz := frz_own (m.blks ++ bk l.length) m.blks.length k n s (cp l.length) (copies l) (copies_ok l)
    have hcpe : (Idx.mk k n s c l).copy.av = .agg [.int .i64 k, .int .i64 n, .str s, .list ((cp l.length).exp m.blks.length false) (Idx.avs (copies l))] := by
      simp only [Idx.copy, Idx.av, cp]
      cases l with
      | nil => rfl
      | cons a l => simp [Cap.exp]
    simp [Runs, exec, aops, astep, wantedA, aop, evO, setO, setU, getE, getE_setE, lget, lget_lset, aBin, aInt, aUn, AV.cells, newVar, padd, rd, wr, asElem, single, splice, aStr, adraw, ascan, h3, h4, h5, h6, h7, gets, RV.get, tupled, hfz, hcpe]

end Go.Abs.Tz

/- LangValues: how deep an index is, told without end. -/
set_option maxRecDepth 100000
set_option maxHeartbeats 4000000
namespace Go.Abs.Tz
open Go.Abs
variable {u : Nat}

/-- The memory of 'deep': the bound, the count, the walk itself. -/
def dm (B : List Blk) (most n : Int) : List Blk := B ++ [.cells [.int .i64 most], .cells [.int .i64 n], .cells [.fn (.func 96) [] [.gptr (B.length + 1) 0, .gptr B.length 0, .gptr (B.length + 2) 0]]]

theorem dm_len (B : List Blk) (most n : Int) : (dm B most n).length = B.length + 3 := by simp [dm]
theorem dm0 (B : List Blk) (most n : Int) : (dm B most n)[B.length]? = some (.cells [.int .i64 most]) := by simp [dm]
theorem dm1 (B : List Blk) (most n : Int) : (dm B most n)[B.length + 1]? = some (.cells [.int .i64 n]) := by simp [dm]
theorem dm2 (B : List Blk) (most n : Int) : (dm B most n)[B.length + 2]? = some (.cells [.fn (.func 96) [] [.gptr (B.length + 1) 0, .gptr B.length 0, .gptr (B.length + 2) 0]]) := by simp [dm]
theorem dm_set (B : List Blk) (most n n' : Int) : (dm B most n).set (B.length + 1) (.cells [.int .i64 n']) = dm B most n' := by simp [dm]

theorem f96 (B : List Blk) (most : Int) (x : Idx) : x.Ok → ∀ (n : Nat) (T : List Nat), n + x.cnt < 1000000000000 → ∃ n' : Nat, n' ≤ n + x.cnt ∧
    cvl (C u) (.fn (.func 96) [] [.gptr (B.length + 1) 0, .gptr B.length 0, .gptr (B.length + 2) 0]) [x.av] { blks := dm B most n, touched := T } = some (.tup [], { blks := dm B most n', touched := T }) := by
  refine Idx.ind' (Q := fun x => x.Ok → ∀ (n : Nat) (T : List Nat), n + x.cnt < 1000000000000 → ∃ n' : Nat, n' ≤ n + x.cnt ∧
    cvl (C u) (.fn (.func 96) [] [.gptr (B.length + 1) 0, .gptr B.length 0, .gptr (B.length + 2) 0]) [x.av] { blks := dm B most n, touched := T } = some (.tup [], { blks := dm B most n', touched := T })) (fun k nn s c l ih hok n T hc => ?_) x
  simp only [Idx.cnt] at hc ⊢
  have hll := Idx.cnts_ge l
  have d0 := dm0 B most
  have d1 := dm1 B most
  have d2 := dm2 B most
  have hrun : Runs (C u).gl (cvl (C u)) g96.code { env := ([(Idx.mk k nn s c l).av] ++ [AV.gptr (B.length + 1) 0, .gptr B.length 0, .gptr (B.length + 2) 0]).map (exp (dm B most n).length true), loc := [], mem := { blks := dm B most n, touched := [] } }
      fun r => (∀ i, r.1 ≠ .exit i) ∧ ∃ n' : Nat, n' ≤ n + (1 + Idx.cnts l) ∧ r.2.mem = { blks := dm B most n', touched := [] } := by
    have e1 : ([(Idx.mk k nn s c l).av] ++ [AV.gptr (B.length + 1) 0, .gptr B.length 0, .gptr (B.length + 2) 0]).map (exp (dm B most n).length true) = [(Idx.mk k nn s c l).av, AV.gptr (B.length + 1) 0, .gptr B.length 0, .gptr (B.length + 2) 0] := by
      have a1 : B.length + 1 < B.length + 3 := by omega
      have a2 : B.length < B.length + 3 := by omega
      simp only [List.cons_append, List.nil_append, List.map_cons, List.map_nil, Idx.exp_av _ _ _ hok, exp, dm_len]
      simp [a1, a2]
    rw [e1]
    simp only [g96, c96]
    have hw1 : IntKind.wrap .i64 ((n : Int) + 1) = (n : Int) + 1 := wrap_i64 (by omega) (by omega)
    let K : Nat → St → Prop := fun N st => getE st.env 1 = .gptr (B.length + 1) 0 ∧ getE st.env 2 = .gptr B.length 0 ∧ getE st.env 3 = .gptr (B.length + 2) 0 ∧ getE st.env 4 = .lptr 4 0 0 ∧ lget st.loc 4 = some (0, .cells [.int .i64 k, .int .i64 nn, .str s, .list c (Idx.avs l)]) ∧
      st.mem = { blks := dm B most (N : Int), touched := [] }
    refine Runs.seq' (M := K n) (by simp [K, Idx.av, newVer, exec, aops, astep, wantedA, aop, evO, setO, setU, getE, getE_setE, lget, lget_lset, aBin, aInt, aUn, AV.cells, newVar, padd, rd, wr, asElem, single, splice, aStr, adraw, ascan]) fun s1 ⟨h1, h2, h3, h4, h5, h6⟩ => ?_
    refine Runs.seq' (M := K (n + 1)) (by simp [K, exec, aops, astep, wantedA, aop, evO, setO, setU, getE, getE_setE, lget, lget_lset, aBin, aInt, aUn, AV.cells, newVar, padd, rd, wr, asElem, single, splice, aStr, adraw, ascan, h1, h2, h3, h4, h5, h6, d1, hw1, Mem.put, Mem.nol, nol, dm_set, los, lo]) fun s1 ⟨h1, h2, h3, h4, h5, h6⟩ => ?_
    by_cases hm : ((n : Int) + 1) ≤ most
    · refine Runs.seq' (M := fun st => K (n + 1) st ∧ getE st.env 11 = .bool true) (by simp [K, exec, aops, astep, wantedA, aop, evO, setO, setU, getE, getE_setE, lget, lget_lset, aBin, aInt, aUn, AV.cells, newVar, padd, rd, wr, asElem, single, splice, aStr, adraw, ascan, h1, h2, h3, h4, h5, h6, d0, d1, hm]) fun s1 ⟨⟨h1, h2, h3, h4, h5, h6⟩, h7⟩ => ?_
      have hcond : ∀ (a b : AC) (Q), Runs (C u).gl (cvl (C u)) a s1 Q → Runs (C u).gl (cvl (C u)) (.cond (.t 11) a b) s1 Q := fun a b Q h => by
        obtain ⟨r, q1, q2⟩ := h
        exact ⟨r, by simp [exec, evO, h7, q1], q2⟩
      refine hcond _ _ _ ?_
      let I : Nat → St → Prop := fun i st => (∃ N : Nat, N ≤ n + (1 + Idx.cnts (l.take i)) ∧ K N st) ∧ getE st.env 13 = .list c (Idx.avs l) ∧ getE st.env 14 = .int .i64 l.length ∧ getE st.env 15 = .int .i64 i
      refine Runs.seq' (M := I 0) (by
        simp [I, K, exec, aops, astep, wantedA, aop, evO, setO, setU, getE, getE_setE, lget, lget_lset, aBin, aInt, aUn, AV.cells, newVar, padd, rd, wr, asElem, single, splice, aStr, adraw, ascan, h1, h2, h3, h4, h5, h6, avs_len]
        exact ⟨n + 1, by omega, by simp⟩) fun s4 hI => ?_
      refine Runs.block (Runs.loop (I := I) l.length hI fun i st hi hst => ?_)
      obtain ⟨⟨N, hN, h1, h2, h3, h4, h5, h6⟩, q1, q2, q3⟩ := hst
      by_cases hlt : i < l.length
      · have hw2 : IntKind.wrap .i64 ((i : Int) + 1) = (i : Int) + 1 := wrap_i64 (by omega) (by omega)
        left
        refine ⟨hlt, ?_⟩
        have hg := avs_get l i hlt
        have ht := cnts_take l i hlt
        have hle := cnts_le l (i + 1)
        obtain ⟨n', hn', ihy⟩ := ih l[i] (List.getElem_mem hlt) (Idx.oks_mem hok.2 _ (List.getElem_mem hlt)) N [] (by omega)
        generalize l[i] = y at hg ihy ht hn'
        obtain ⟨k', n2, s', c2, l'⟩ := y
        simp only [Idx.av] at hg ihy
        simp [I, K, l96_0, exec, aops, astep, wantedA, aop, evO, setO, setU, getE, getE_setE, lget, lget_lset, aBin, aInt, aUn, AV.cells, newVar, padd, rd, wr, asElem, single, splice, aStr, adraw, ascan, h1, h2, h3, h4, h5, h6, q1, q2, q3, hlt, hg, ihy, hw2, avs_len, d2]
        exact ⟨n', by omega, rfl⟩
      · right
        have : i = l.length := by omega
        subst this
        simp only [List.take_length] at hN
        simp [l96_0, exec, aops, astep, wantedA, aop, evO, setO, setU, getE, getE_setE, lget, lget_lset, aBin, aInt, aUn, AV.cells, newVar, padd, rd, wr, asElem, single, splice, aStr, adraw, ascan, q1, q2, q3, h6]
        exact ⟨N, hN, rfl⟩
    · simp [Runs, exec, aops, astep, wantedA, aop, evO, setO, setU, getE, getE_setE, lget, lget_lset, aBin, aInt, aUn, AV.cells, newVar, padd, rd, wr, asElem, single, splice, aStr, adraw, ascan, h1, h2, h3, h4, h5, h6, d0, d1, hm]
      exact ⟨n + 1, by omega, by simp⟩
  obtain ⟨⟨ex, s'⟩, r1, r2, n', r3, r4⟩ := hrun
  refine ⟨n', r3, ?_⟩
  dsimp only at r4
  rw [call_keep (g := g96) (by rfl) (by rfl) (by rfl) r1 r2 (l := []) (by rfl), r4]
  simp [tupled, exp, exps]

end Go.Abs.Tz
