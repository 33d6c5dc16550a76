/- LangValues: lists that are equal, copies of lists, indices that are the same. -/
import Derived.Test.YtiigojkfojnedaaGreatDoorXVg
set_option linter.unusedVariables false
set_option linter.unusedSimpArgs false
set_option maxRecDepth 100000
set_option maxHeartbeats 4000000
namespace Go.Abs.Tz
open Go.Abs
variable {u : Nat}

theorem f33 (c1 c2 : Cap) (h1 : okCap c1) (h2 : okCap c2) (ss : List (List Nat)) (hlen : ss.length < 1000000000000) (m : Mem) :
    cvl (C u) (.fn (.func 33) [] []) [strsAV c1 ss, strsAV c2 ss] m = some (.bool true, m) := by
  refine call_runs (g := g33) (by rfl) (by rfl) (by rfl) ?_
  simp only [List.map_cons, List.map_nil, exp_strs h1, exp_strs h2, g33, c33]
  refine Runs.seq' (M := fun s1 => getE s1.env 0 = strsAV c1 ss ∧ getE s1.env 1 = strsAV c2 ss ∧ s1.mem = { blks := m.blks, touched := [] }) (by simp [exec, aops, astep, wantedA, aop, evO, setO, setU, getE, getE_setE, lget, lget_lset, aBin, aInt, aUn, AV.cells, newVar, padd, rd, wr, asElem, single, splice, aStr, adraw, ascan]) fun s1 ⟨h1, h2, h3⟩ => ?_
  refine Runs.seq' (M := fun s1 => getE s1.env 0 = strsAV c1 ss ∧ getE s1.env 1 = strsAV c2 ss ∧ s1.mem = { blks := m.blks, touched := [] }) (by simp [exec, aops, astep, wantedA, aop, evO, setO, setU, getE, getE_setE, lget, lget_lset, aBin, aInt, aUn, AV.cells, newVar, padd, rd, wr, asElem, single, splice, aStr, adraw, ascan, strsAV, h1, h2, h3]) fun s1 ⟨h1, h2, h3⟩ => ?_
  refine Runs.seq (M := fun s3 => s3.mem = { blks := m.blks, touched := [] }) ?_ fun s3 h3 => ?_
  · let I : Nat → St → Prop := fun i st => getE st.env 0 = strsAV c1 ss ∧ getE st.env 1 = strsAV c2 ss ∧ getE st.env 12 = .int .i64 ss.length ∧ getE st.env 13 = .int .i64 i ∧ st.mem = { blks := m.blks, touched := [] }
    refine Runs.seq' (M := I 0) (by simp [I, exec, aops, astep, wantedA, aop, evO, setO, setU, getE, getE_setE, lget, lget_lset, aBin, aInt, aUn, AV.cells, newVar, padd, rd, wr, asElem, single, splice, aStr, adraw, ascan, h1, h2, h3, strsAV]) fun s4 hI => ?_
    refine Runs.block (Runs.loop (I := I) ss.length hI fun i st hi hst => ?_)
    obtain ⟨q1, q2, q3, q4, q5⟩ := hst
    simp only [strsAV] at q1 q2
    by_cases hlt : i < ss.length
    · have hw2 : IntKind.wrap .i64 ((i : Int) + 1) = (i : Int) + 1 := wrap_i64 (by omega) (by omega)
      left
      refine ⟨hlt, ?_⟩
      simp [I, l33_0, exec, aops, astep, wantedA, aop, evO, setO, setU, getE, getE_setE, lget, lget_lset, aBin, aInt, aUn, AV.cells, newVar, padd, rd, wr, asElem, single, splice, aStr, adraw, ascan, q1, q2, q3, q4, q5, hlt, hw2, strsAV]
    · right
      have : i = ss.length := by omega
      subst this
      simp [l33_0, exec, aops, astep, wantedA, aop, evO, setO, setU, getE, getE_setE, lget, lget_lset, aBin, aInt, aUn, AV.cells, newVar, padd, rd, wr, asElem, single, splice, aStr, adraw, ascan, q1, q2, q3, q4, q5]
  · simp [Runs, exec, aops, astep, wantedA, aop, evO, setO, setU, getE, getE_setE, lget, lget_lset, aBin, aInt, aUn, AV.cells, newVar, padd, rd, wr, asElem, single, splice, aStr, adraw, ascan, h3, gets, RV.get, tupled, frz_bool]

theorem f34 (c1 c2 : Cap) (h1 : okCap c1) (h2 : okCap c2) (ns : List Int) (hlen : ns.length < 1000000000000) (m : Mem) :
    cvl (C u) (.fn (.func 34) [] []) [intsAV c1 ns, intsAV c2 ns] m = some (.bool true, m) := by
  refine call_runs (g := g34) (by rfl) (by rfl) (by rfl) ?_
  simp only [List.map_cons, List.map_nil, exp_ints h1, exp_ints h2, g34, c34]
  refine Runs.seq' (M := fun s1 => getE s1.env 0 = intsAV c1 ns ∧ getE s1.env 1 = intsAV c2 ns ∧ s1.mem = { blks := m.blks, touched := [] }) (by simp [exec, aops, astep, wantedA, aop, evO, setO, setU, getE, getE_setE, lget, lget_lset, aBin, aInt, aUn, AV.cells, newVar, padd, rd, wr, asElem, single, splice, aStr, adraw, ascan]) fun s1 ⟨h1, h2, h3⟩ => ?_
  refine Runs.seq' (M := fun s1 => getE s1.env 0 = intsAV c1 ns ∧ getE s1.env 1 = intsAV c2 ns ∧ s1.mem = { blks := m.blks, touched := [] }) (by simp [exec, aops, astep, wantedA, aop, evO, setO, setU, getE, getE_setE, lget, lget_lset, aBin, aInt, aUn, AV.cells, newVar, padd, rd, wr, asElem, single, splice, aStr, adraw, ascan, intsAV, h1, h2, h3]) fun s1 ⟨h1, h2, h3⟩ => ?_
  refine Runs.seq (M := fun s3 => s3.mem = { blks := m.blks, touched := [] }) ?_ fun s3 h3 => ?_
  · let I : Nat → St → Prop := fun i st => getE st.env 0 = intsAV c1 ns ∧ getE st.env 1 = intsAV c2 ns ∧ getE st.env 12 = .int .i64 ns.length ∧ getE st.env 13 = .int .i64 i ∧ st.mem = { blks := m.blks, touched := [] }
    refine Runs.seq' (M := I 0) (by simp [I, exec, aops, astep, wantedA, aop, evO, setO, setU, getE, getE_setE, lget, lget_lset, aBin, aInt, aUn, AV.cells, newVar, padd, rd, wr, asElem, single, splice, aStr, adraw, ascan, h1, h2, h3, intsAV]) fun s4 hI => ?_
    refine Runs.block (Runs.loop (I := I) ns.length hI fun i st hi hst => ?_)
    obtain ⟨q1, q2, q3, q4, q5⟩ := hst
    simp only [intsAV] at q1 q2
    by_cases hlt : i < ns.length
    · have hw2 : IntKind.wrap .i64 ((i : Int) + 1) = (i : Int) + 1 := wrap_i64 (by omega) (by omega)
      left
      refine ⟨hlt, ?_⟩
      simp [I, l34_0, exec, aops, astep, wantedA, aop, evO, setO, setU, getE, getE_setE, lget, lget_lset, aBin, aInt, aUn, AV.cells, newVar, padd, rd, wr, asElem, single, splice, aStr, adraw, ascan, q1, q2, q3, q4, q5, hlt, hw2, intsAV]
    · right
      have : i = ns.length := by omega
      subst this
      simp [l34_0, exec, aops, astep, wantedA, aop, evO, setO, setU, getE, getE_setE, lget, lget_lset, aBin, aInt, aUn, AV.cells, newVar, padd, rd, wr, asElem, single, splice, aStr, adraw, ascan, q1, q2, q3, q4, q5]
  · simp [Runs, exec, aops, astep, wantedA, aop, evO, setO, setU, getE, getE_setE, lget, lget_lset, aBin, aInt, aUn, AV.cells, newVar, padd, rd, wr, asElem, single, splice, aStr, adraw, ascan, h3, gets, RV.get, tupled, frz_bool]

theorem frz_strs (bs : List Blk) (n : Nat) (c : Cap) (l : List (List Nat)) : frz bs n 8 (.list c (l.map AV.str)) = .list (c.exp n false) (l.map AV.str) := by
  simp only [frz, frzW, frzWs_eq, List.map_map]
  congr 1
theorem frz_ints (bs : List Blk) (n : Nat) (c : Cap) (l : List Int) : frz bs n 8 (.list c (l.map (AV.int .i64))) = .list (c.exp n false) (l.map (AV.int .i64)) := by
  simp only [frz, frzW, frzWs_eq, List.map_map]
  congr 1

theorem f29 (c : Cap) (ss : List (List Nat)) (hc : (c = .nil ∧ ss = []) ∨ c = .any) (hlen : ss.length < 1000000000000) (m : Mem) : cvl (C u) (.fn (.func 29) [] []) [strsAV c ss] m = some (strsAV c ss, m) := by
  refine call_runs (g := g29) (by rfl) (by rfl) (by rfl) ?_
  rcases hc with ⟨rfl, rfl⟩ | rfl
  · simp [Runs, g29, c29, exp, exps, Cap.exp, exec, aops, astep, wantedA, aop, evO, setO, setU, getE, getE_setE, lget, lget_lset, aBin, aInt, aUn, AV.cells, newVar, padd, rd, wr, asElem, single, splice, aStr, adraw, ascan, isNil, strsAV, gets, RV.get, tupled, frz, frzW, frzWs]
  · cases ss with
    | nil => simp [Runs, g29, c29, exp, exps, Cap.exp, exec, aops, astep, wantedA, aop, evO, setO, setU, getE, getE_setE, lget, lget_lset, aBin, aInt, aUn, AV.cells, newVar, padd, rd, wr, asElem, single, splice, aStr, adraw, ascan, isNil, strsAV, gets, RV.get, tupled, frz, frzW, frzWs, aApp]
    | cons a l =>
      have h1 : (l.map AV.str).all (shaped false 1) = true := by simp [shaped, AV.one]
      have h2 : (l.length + 1) * 16 ≤ 140737488355328 := by simp at hlen; omega
      have h3 : l.length + 1 ≤ 140737488355328 := by simp at hlen; omega
      have e1 : exps m.blks.length false (l.map AV.str) = l.map AV.str := by rw [exps_eq, List.map_map]; exact List.map_congr_left fun _ _ => rfl
      have e2 : (l.map AV.str).map nol = l.map AV.str := by rw [List.map_map]; exact List.map_congr_left fun _ _ => rfl
      simp [Runs, g29, c29, exp, exps, Cap.exp, exec, aops, astep, wantedA, aop, evO, setO, setU, getE, getE_setE, lget, lget_lset, aBin, aInt, aUn, AV.cells, newVar, padd, rd, wr, asElem, single, splice, aStr, adraw, ascan, isNil, strsAV, gets, RV.get, tupled, aApp, shaped, AV.one, h1, h2, h3, e1, Mem.nol, nol, Mem.push]
      exact frz_strs _ _ (.own m.blks.length) (a :: l)

theorem f30 (c : Cap) (ns : List Int) (hc : (c = .nil ∧ ns = []) ∨ c = .any) (hlen : ns.length < 1000000000000) (m : Mem) : cvl (C u) (.fn (.func 30) [] []) [intsAV c ns] m = some (intsAV c ns, m) := by
  refine call_runs (g := g30) (by rfl) (by rfl) (by rfl) ?_
  rcases hc with ⟨rfl, rfl⟩ | rfl
  · simp [Runs, g30, c30, exp, exps, Cap.exp, exec, aops, astep, wantedA, aop, evO, setO, setU, getE, getE_setE, lget, lget_lset, aBin, aInt, aUn, AV.cells, newVar, padd, rd, wr, asElem, single, splice, aStr, adraw, ascan, isNil, intsAV, gets, RV.get, tupled, frz, frzW, frzWs]
  · cases ns with
    | nil => simp [Runs, g30, c30, exp, exps, Cap.exp, exec, aops, astep, wantedA, aop, evO, setO, setU, getE, getE_setE, lget, lget_lset, aBin, aInt, aUn, AV.cells, newVar, padd, rd, wr, asElem, single, splice, aStr, adraw, ascan, isNil, intsAV, gets, RV.get, tupled, frz, frzW, frzWs, aApp]
    | cons a l =>
      have h1 : (l.map (AV.int .i64)).all (shaped false 1) = true := by simp [shaped, AV.one]
      have h2 : (l.length + 1) * 8 ≤ 140737488355328 := by simp at hlen; omega
      have h3 : l.length + 1 ≤ 140737488355328 := by simp at hlen; omega
      have e1 : exps m.blks.length false (l.map (AV.int .i64)) = l.map (AV.int .i64) := by rw [exps_eq, List.map_map]; exact List.map_congr_left fun _ _ => rfl
      simp [Runs, g30, c30, exp, exps, Cap.exp, exec, aops, astep, wantedA, aop, evO, setO, setU, getE, getE_setE, lget, lget_lset, aBin, aInt, aUn, AV.cells, newVar, padd, rd, wr, asElem, single, splice, aStr, adraw, ascan, isNil, intsAV, gets, RV.get, tupled, aApp, shaped, AV.one, h1, h2, h3, e1, Mem.nol, nol, Mem.push]
      exact frz_ints _ _ (.own m.blks.length) (a :: l)

/-! ### copies of indices -/
mutual
def _root_.Go.Abs.Idx.copy : Idx → Idx
  | .mk k n s _ l => .mk k n s (match l with
    | [] => .nil
    | _ => .any) (copies l)
def copies : List Idx → List Idx
  | [] => []
  | x :: l => x.copy :: copies l
end
theorem copies_eq (l : List Idx) : copies l = l.map Idx.copy := by
  induction l with
  | nil => rfl
  | cons a l ih => simp [copies, ih]
theorem copies_len (l : List Idx) : (copies l).length = l.length := by rw [copies_eq]; simp
theorem copies_get (l : List Idx) (i : Nat) (h : i < l.length) : (copies l)[i]'(by rw [copies_len]; exact h) = l[i].copy := by simp [copies_eq]
theorem copy_ok (x : Idx) : x.copy.Ok := by
  refine Idx.ind' (Q := fun x => x.copy.Ok) (fun k n s c l ih => ?_) x
  simp only [Idx.copy, Idx.Ok]
  refine ⟨?_, ?_⟩
  · cases l
    · exact .inl rfl
    · exact .inr rfl
  · rw [copies_eq]
    clear c
    induction l with
    | nil => trivial
    | cons a l ih2 => exact ⟨ih a (by simp), ih2 fun y hy => ih y (by simp [hy])⟩
theorem copy_cnt (x : Idx) : x.copy.cnt = x.cnt := by
  refine Idx.ind' (Q := fun x => x.copy.cnt = x.cnt) (fun k n s c l ih => ?_) x
  simp only [Idx.copy, Idx.cnt]
  congr 1
  clear c
  induction l with
  | nil => rfl
  | cons a l ih2 =>
    simp only [copies, Idx.cnts]
    rw [ih a (by simp), ih2 fun y hy => ih y (by simp [hy])]
theorem copy_val (ss : List (List Nat)) (ns : List Int) (x : Idx) : x.copy.val ss ns = x.val ss ns := by
  refine Idx.ind' (Q := fun x => x.copy.val ss ns = x.val ss ns) (fun k n s c l ih => ?_) x
  have : Idx.vals ss ns (copies l) = Idx.vals ss ns l := by
    clear c
    induction l with
    | nil => rfl
    | cons a l ih2 =>
      simp only [copies, Idx.vals]
      rw [ih a (by simp), ih2 fun y hy => ih y (by simp [hy])]
  simp only [Idx.copy, Idx.val, copies_len, this]

theorem f28 (x : Idx) : x.Ok → x.cnt < 1000000000000 → ∀ m, cvl (C u) (.fn (.func 28) [] []) [x.copy.av, x.av] m = some (.bool true, m) := by
  refine Idx.ind' (Q := fun x => x.Ok → x.cnt < 1000000000000 → ∀ m, cvl (C u) (.fn (.func 28) [] []) [x.copy.av, x.av] m = some (.bool true, m)) (fun k n s c l ih hok hc m => ?_) x
  refine call_runs (g := g28) (by rfl) (by rfl) (by rfl) ?_
  simp only [List.map_cons, List.map_nil, Idx.exp_av _ _ _ hok, Idx.exp_av _ _ _ (copy_ok _), g28, c28]
  simp only [Idx.cnt] at hc
  have hll := Idx.cnts_ge l
  have hcl : (Idx.avs (copies l)).length = l.length := by rw [avs_len, copies_len]
  obtain ⟨c', hc'⟩ : ∃ c', (Idx.mk k n s c l).copy = .mk k n s c' (copies l) := ⟨_, rfl⟩
  rw [hc']
  let K : St → Prop := fun st => getE st.env 2 = .lptr 2 0 0 ∧ getE st.env 3 = .lptr 3 0 0 ∧ lget st.loc 2 = some (0, .cells [.int .i64 k, .int .i64 n, .str s, .list c' (Idx.avs (copies l))]) ∧ lget st.loc 3 = some (0, .cells [.int .i64 k, .int .i64 n, .str s, .list c (Idx.avs l)]) ∧
    st.mem = { blks := m.blks, touched := [] }
  refine Runs.seq' (M := K) (by simp [K, Idx.av, newVer, exec, aops, astep, wantedA, aop, evO, setO, setU, getE, getE_setE, lget, lget_lset, aBin, aInt, aUn, AV.cells, newVar, padd, rd, wr, asElem, single, splice, aStr, adraw, ascan]) fun s1 ⟨h1, h2, h3, h4, h5⟩ => ?_
  refine Runs.seq' (M := K) (by simp [K, exec, aops, astep, wantedA, aop, evO, setO, setU, getE, getE_setE, lget, lget_lset, aBin, aInt, aUn, AV.cells, newVar, padd, rd, wr, asElem, single, splice, aStr, adraw, ascan, h1, h2, h3, h4, h5, avs_len, hcl]) fun s1 ⟨h1, h2, h3, h4, h5⟩ => ?_
  refine Runs.seq (M := fun s3 => s3.mem = { blks := m.blks, touched := [] }) ?_ fun s3 h3 => ?_
  · let I : Nat → St → Prop := fun i st => K st ∧ getE st.env 5 = .int .i64 i
    refine Runs.seq' (M := I 0) (by simp [I, K, exec, aops, astep, wantedA, aop, evO, setO, setU, getE, getE_setE, lget, lget_lset, aBin, aInt, aUn, AV.cells, newVar, padd, rd, wr, asElem, single, splice, aStr, adraw, ascan, h1, h2, h3, h4, h5]) fun s4 hI => ?_
    refine Runs.block (Runs.loop (I := I) l.length hI fun i st hi hst => ?_)
    obtain ⟨⟨h1, h2, h3, h4, h5⟩, q1⟩ := hst
    by_cases hlt : i < l.length
    · have hw2 : IntKind.wrap .i64 ((i : Int) + 1) = (i : Int) + 1 := wrap_i64 (by omega) (by omega)
      left
      refine ⟨hlt, ?_⟩
      have hg := avs_get l i hlt
      have hg2 := avs_get (copies l) i (by rw [copies_len]; exact hlt)
      rw [copies_get l i hlt] at hg2
      have ihy := ih l[i] (List.getElem_mem hlt) (Idx.oks_mem hok.2 _ (List.getElem_mem hlt)) (by have := Idx.cnt_mem (List.getElem_mem hlt); omega)
      generalize l[i] = y at hg hg2 ihy
      obtain ⟨k', n', s', c2, l'⟩ := y
      obtain ⟨c3, hc3⟩ : ∃ c3, (Idx.mk k' n' s' c2 l').copy = .mk k' n' s' c3 (copies l') := ⟨_, rfl⟩
      rw [hc3] at hg2 ihy
      simp only [Idx.av] at hg hg2 ihy
      simp [I, K, l28_0, exec, aops, astep, wantedA, aop, evO, setO, setU, getE, getE_setE, lget, lget_lset, aBin, aInt, aUn, AV.cells, newVar, padd, rd, wr, asElem, single, splice, aStr, adraw, ascan, h1, h2, h3, h4, h5, q1, hlt, hg, hg2, ihy, hw2, avs_len, copies_len]
    · right
      have : i = l.length := by omega
      subst this
      simp [l28_0, exec, aops, astep, wantedA, aop, evO, setO, setU, getE, getE_setE, lget, lget_lset, aBin, aInt, aUn, AV.cells, newVar, padd, rd, wr, asElem, single, splice, aStr, adraw, ascan, h1, h2, h3, h4, h5, q1, avs_len, copies_len]
  · simp [Runs, exec, aops, astep, wantedA, aop, evO, setO, setU, getE, getE_setE, lget, lget_lset, aBin, aInt, aUn, AV.cells, newVar, padd, rd, wr, asElem, single, splice, aStr, adraw, ascan, h3, gets, RV.get, tupled, frz_bool]

end Go.Abs.Tz
