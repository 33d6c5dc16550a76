/- LangValues: lang's value of an index. -/
import Derived.Test.YtiigojkfojnedaaGreatDoorXVf
set_option linter.unusedVariables false
set_option linter.unusedSimpArgs false
set_option maxRecDepth 100000
set_option maxHeartbeats 4000000
namespace Go.Abs.Tz
open Go.Abs
variable {u : Nat}

theorem f118 (cn cb : Cap) (hcn : okCap cn) (hcb : okCap cb) (ss : List (List Nat)) (ns : List Int) (hlen : ss.length < 1000000000000) (hsn : ss.length = ns.length) (x : Idx) : x.Ok → ∀ m,
    cvl (C u) (.fn (.func 118) [] []) [x.av, strsAV cn ss, intsAV cb ns] m = some (ValAV ss ns x, m) := by
  refine Idx.ind' (Q := fun x => x.Ok → ∀ m, cvl (C u) (.fn (.func 118) [] []) [x.av, strsAV cn ss, intsAV cb ns] m = some (ValAV ss ns x, m)) (fun k n s c l ih hok m => ?_) x
  refine call_runs (g := g118) (by rfl) (by rfl) (by rfl) ?_
  have hsh := fun m => f176 (u := u) k n s c l m hok
  simp only [List.map_cons, List.map_nil, Idx.exp_av _ _ _ hok, exp_strs hcn, exp_ints hcb, g118, c118, ValAV]
  refine Runs.seq' (M := fun s1 => getE s1.env 1 = strsAV cn ss ∧ getE s1.env 2 = intsAV cb ns ∧ getE s1.env 3 = .lptr 3 0 0 ∧ lget s1.loc 3 = some (0, .cells [.int .i64 k, .int .i64 n, .str s, .list c (Idx.avs l)]) ∧
    s1.mem = { blks := m.blks, touched := [] }) (by simp [Idx.av, newVer, exec, aops, astep, wantedA, aop, evO, setO, setU, getE, getE_setE, lget, lget_lset, aBin, aInt, aUn, AV.cells, newVar, padd, rd, wr, asElem, single, splice, aStr, adraw, ascan]) fun s1 ⟨h1, h2, h3, h4, h5⟩ => ?_
  simp only [Idx.av] at hsh
  by_cases hs0 : shapeE k n l.length = 0
  case neg =>
    have hs1 : (shapeE k n l.length != 0) = true := by simpa using hs0
    refine Runs.seq (M := fun _ => False) ?_ fun _ h => h.elim
    simp [Runs, exec, aops, astep, wantedA, aop, evO, setO, setU, getE, getE_setE, lget, lget_lset, aBin, aInt, aUn, AV.cells, newVar, padd, rd, wr, asElem, single, splice, aStr, adraw, ascan, h1, h2, h3, h4, h5, hsh, hs1, Idx.val, hs0, gets, RV.get, tupled, frz_two]
  have hl : (Idx.avs l).length = l.length := avs_len l
  rw [hs0] at hsh
  refine Runs.seq' (M := fun s1 => getE s1.env 1 = strsAV cn ss ∧ getE s1.env 2 = intsAV cb ns ∧ getE s1.env 3 = .lptr 3 0 0 ∧ lget s1.loc 3 = some (0, .cells [.int .i64 k, .int .i64 n, .str s, .list c (Idx.avs l)]) ∧
    s1.mem = { blks := m.blks, touched := [] }) (by simp [exec, aops, astep, wantedA, aop, evO, setO, setU, getE, getE_setE, lget, lget_lset, aBin, aInt, aUn, AV.cells, newVar, padd, rd, wr, asElem, single, splice, aStr, adraw, ascan, h1, h2, h3, h4, h5, hsh]) fun s1 ⟨h1, h2, h3, h4, h5⟩ => ?_
  refine Runs.seq' (M := fun s1 => getE s1.env 1 = strsAV cn ss ∧ getE s1.env 2 = intsAV cb ns ∧ getE s1.env 3 = .lptr 3 0 0 ∧ lget s1.loc 3 = some (0, .cells [.int .i64 k, .int .i64 n, .str s, .list c (Idx.avs l)]) ∧
    s1.mem = { blks := m.blks, touched := [] } ∧ ∃ v, getE s1.env 9 = .lptr 9 v 0 ∧ lget s1.loc 9 = some (v, .cells [.int .i64 0, .int .i64 0])) (by simp [exec, aops, astep, wantedA, aop, evO, setO, setU, getE, getE_setE, lget, lget_lset, aBin, aInt, aUn, AV.cells, newVar, padd, rd, wr, asElem, single, splice, aStr, adraw, ascan, h1, h2, h3, h4, h5]) fun s1 ⟨h1, h2, h3, h4, h5, v9, h6, h7⟩ => ?_
  -- the end: is the number within its bounds?
  let Fin : Ex × St → Prop := fun r => (∀ (i : Nat), r.fst ≠ Ex.exit i) ∧ (∃ bs, r.snd.mem = { blks := m.blks ++ bs, touched := [] }) ∧ ∃ l_1, gets r.snd [RV.tmp 6, RV.tmp 7] = some l_1 ∧
          frz r.snd.mem.blks m.blks.length 8 (tupled l_1) = AV.tup [AV.int IntKind.i64 ((Idx.mk k n s c l).val ss ns).fst, AV.int IntKind.i64 ((Idx.mk k n s c l).val ss ns).snd]
  have hend : ∀ (v : Int) (st : St), getE st.env 14 = .int .i64 v → st.mem = { blks := m.blks, touched := [] } → lim v = (Idx.mk k n s c l).val ss ns →
      Runs (C u).gl (cvl (C u)) (.seq (.seq (.ops [⟨(some 80), .mv (.t 14), none⟩, ⟨(some 81), .bin .lss (.t 80) (.c (.int .i64 (-1000000000))), none⟩, ⟨(some 82), .mv (.t 81), none⟩, ⟨(some 83), .mv (.t 14), some (82, false)⟩,
        ⟨(some 84), .bin .gtr (.t 83) (.c (.int .i64 1000000000)), some (82, false)⟩, ⟨(some 85), .pick (.t 82) (.c (.bool true)) (.t 84), none⟩]) (.cond (.t 85) (.seq (.ops [⟨(some 6), .mv (.c (.int .i64 0)), none⟩, ⟨(some 7), .mv (.c (.int .i64 8)), none⟩]) .ret) .skip))
        (.seq (.ops [⟨(some 86), .mv (.t 14), none⟩, ⟨(some 6), .mv (.t 86), none⟩, ⟨(some 7), .mv (.c (.int .i64 0)), none⟩]) .ret)) st Fin := by
    intro v st e1 e2 e3
    simp only [Fin]
    rw [← e3]
    by_cases g1 : v < -1000000000
    · rw [lim_lo g1]; simp [Runs, exec, aops, astep, wantedA, aop, evO, setO, setU, getE, getE_setE, lget, lget_lset, aBin, aInt, aUn, AV.cells, newVar, padd, rd, wr, asElem, single, splice, aStr, adraw, ascan, e1, e2, f99, g1, gets, RV.get, tupled, frz_two]
    by_cases g2 : 1000000000 < v
    · rw [lim_hi g2]; simp [Runs, exec, aops, astep, wantedA, aop, evO, setO, setU, getE, getE_setE, lget, lget_lset, aBin, aInt, aUn, AV.cells, newVar, padd, rd, wr, asElem, single, splice, aStr, adraw, ascan, e1, e2, f99, g1, g2, gets, RV.get, tupled, frz_two]
    · rw [lim_ok g1 g2]; simp [Runs, exec, aops, astep, wantedA, aop, evO, setO, setU, getE, getE_setE, lget, lget_lset, aBin, aInt, aUn, AV.cells, newVar, padd, rd, wr, asElem, single, splice, aStr, adraw, ascan, e1, e2, f99, g1, g2, gets, RV.get, tupled, frz_two]
  show Runs (C u).gl (cvl (C u)) _ s1 Fin
  have hk : k = 1 ∨ k = 2 ∨ 3 ≤ k := by unfold shapeE at hs0; (repeat' split at hs0) <;> simp_all <;> omega
  by_cases hk3 : 3 ≤ k
  · have hk2 : (k == 2) = false := by simp; omega
    have hl2 : l.length = 2 := by unfold shapeE at hs0; (repeat' split at hs0) <;> simp_all <;> omega
    have hk5 : k ≤ 5 := by unfold shapeE at hs0; (repeat' split at hs0) <;> simp_all <;> omega
    obtain ⟨a, b, rfl⟩ : ∃ a b, l = [a, b] := by
      match l, hl2 with
      | [a, b], _ => exact ⟨a, b, rfl⟩
    have iha := ih a (by simp) (hok.2.1)
    have ihb := ih b (by simp) (hok.2.2.1)
    have hba := Idx.val_le ss ns a
    have hbb := Idx.val_le ss ns b
    have hval : (Idx.mk k n s c [a, b]).val ss ns = if (a.val ss ns).2 ≠ 0 then (0, (a.val ss ns).2) else if (b.val ss ns).2 ≠ 0 then (0, (b.val ss ns).2) else lim (if k = 3 then (a.val ss ns).1 + (b.val ss ns).1 else if k = 4 then (a.val ss ns).1 - (b.val ss ns).1 else (a.val ss ns).1 * (b.val ss ns).1) := by
      have hk2' : ¬ k = 2 := by omega
      have hs0' : shapeE k n 2 = 0 := hs0
      simp [Idx.val, Idx.vals, hs0', comb, hk2', hk3]
    simp only [ValAV] at iha ihb
    generalize a.val ss ns = va at iha hval hba
    generalize b.val ss ns = vb at ihb hval hbb
    obtain ⟨va, ea⟩ := va
    obtain ⟨vb, eb⟩ := vb
    obtain ⟨ka, na, sa, ca, la⟩ := a
    obtain ⟨kb, nb, sb, cb', lb⟩ := b
    simp only [Idx.av] at iha ihb
    simp only [Idx.avs, Idx.av] at h4
    simp only at hval hba hbb
    have hw1 : IntKind.wrap .i64 (va + vb) = va + vb := wrap_i64 (by omega) (by omega)
    have hw2 : IntKind.wrap .i64 (va - vb) = va - vb := wrap_i64 (by omega) (by omega)
    have hmul : -1000000000000000000 ≤ va * vb ∧ va * vb ≤ 1000000000000000000 := mul_le hba hbb
    have hw3 : IntKind.wrap .i64 (va * vb) = va * vb := wrap_i64 (by omega) (by omega)
    let A1 : AV := .agg [.int .i64 ka, .int .i64 na, .str sa, .list ca (Idx.avs la)]
    let B1 : AV := .agg [.int .i64 kb, .int .i64 nb, .str sb, .list cb' (Idx.avs lb)]
    let K : St → Prop := fun st => getE st.env 1 = strsAV cn ss ∧ getE st.env 2 = intsAV cb ns ∧ getE st.env 3 = .lptr 3 0 0 ∧ lget st.loc 3 = some (0, .cells [.int .i64 k, .int .i64 n, .str s, .list c [.agg [.int .i64 ka, .int .i64 na, .str sa, .list ca (Idx.avs la)], .agg [.int .i64 kb, .int .i64 nb, .str sb, .list cb' (Idx.avs lb)]]]) ∧
      st.mem = { blks := m.blks, touched := [] } ∧ getE st.env 9 = .lptr 9 v9 0
    refine Runs.seq (M := fun st => K st ∧ lget st.loc 9 = some (v9, .cells [.int .i64 va, .int .i64 vb]) ∧ ea = 0 ∧ eb = 0) ?_ fun s1 ⟨⟨h1, h2, h3, h4, h5, h6⟩, h7, hea, heb⟩ => ?_
    · let I : Nat → St → Prop := fun i st => K st ∧ getE st.env 22 = .list c [.agg [.int .i64 ka, .int .i64 na, .str sa, .list ca (Idx.avs la)], .agg [.int .i64 kb, .int .i64 nb, .str sb, .list cb' (Idx.avs lb)]] ∧ getE st.env 23 = .int .i64 2 ∧ getE st.env 24 = .int .i64 i ∧
        ((i = 0 ∧ lget st.loc 9 = some (v9, .cells [.int .i64 0, .int .i64 0])) ∨ (i = 1 ∧ ea = 0 ∧ lget st.loc 9 = some (v9, .cells [.int .i64 va, .int .i64 0])) ∨ (i = 2 ∧ ea = 0 ∧ eb = 0 ∧ lget st.loc 9 = some (v9, .cells [.int .i64 va, .int .i64 vb])))
      refine Runs.seq' (M := I 0) (by simp [I, K, exec, aops, astep, wantedA, aop, evO, setO, setU, getE, getE_setE, lget, lget_lset, aBin, aInt, aUn, AV.cells, newVar, padd, rd, wr, asElem, single, splice, aStr, adraw, ascan, h1, h2, h3, h4, h5, h6, h7]) fun s4 hI => ?_
      refine Runs.block (Runs.loop (I := I) 2 hI fun i st hi hst => ?_)
      obtain ⟨⟨h1, h2, h3, h4, h5, h6⟩, q1, q2, q3, ⟨rfl, q4⟩ | ⟨rfl, q4, q5⟩ | ⟨rfl, q4, q5, q6⟩⟩ := hst
      · by_cases hea : ea = 0
        · left
          refine ⟨by omega, ?_⟩
          subst hea
          have hw : IntKind.wrap .i64 1 = 1 := by decide
          simp [I, K, l118_0, exec, aops, astep, wantedA, aop, evO, setO, setU, getE, getE_setE, lget, lget_lset, aBin, aInt, aUn, AV.cells, newVar, padd, rd, wr, asElem, single, splice, aStr, adraw, ascan, h1, h2, h3, h4, h5, h6, q1, q2, q3, q4, iha, hw]
        · right
          have e1 : (ea != 0) = true := by simpa using hea
          simp [Fin, l118_0, exec, aops, astep, wantedA, aop, evO, setO, setU, getE, getE_setE, lget, lget_lset, aBin, aInt, aUn, AV.cells, newVar, padd, rd, wr, asElem, single, splice, aStr, adraw, ascan, h1, h2, h3, h4, h5, h6, q1, q2, q3, q4, iha, e1, hval, hea, gets, RV.get, tupled, frz_two]
      · subst q4
        by_cases heb : eb = 0
        · left
          refine ⟨by omega, ?_⟩
          subst heb
          have hw : IntKind.wrap .i64 2 = 2 := by decide
          simp [I, K, l118_0, exec, aops, astep, wantedA, aop, evO, setO, setU, getE, getE_setE, lget, lget_lset, aBin, aInt, aUn, AV.cells, newVar, padd, rd, wr, asElem, single, splice, aStr, adraw, ascan, h1, h2, h3, h4, h5, h6, q1, q2, q3, q5, ihb, hw]
        · right
          have e1 : (eb != 0) = true := by simpa using heb
          simp [Fin, l118_0, exec, aops, astep, wantedA, aop, evO, setO, setU, getE, getE_setE, lget, lget_lset, aBin, aInt, aUn, AV.cells, newVar, padd, rd, wr, asElem, single, splice, aStr, adraw, ascan, h1, h2, h3, h4, h5, h6, q1, q2, q3, q5, ihb, e1, hval, heb, gets, RV.get, tupled, frz_two]
      · right
        subst q4 q5
        simp [K, l118_0, exec, aops, astep, wantedA, aop, evO, setO, setU, getE, getE_setE, lget, lget_lset, aBin, aInt, aUn, AV.cells, newVar, padd, rd, wr, asElem, single, splice, aStr, adraw, ascan, h1, h2, h3, h4, h5, h6, q1, q2, q3, q6]
    · subst hea heb
      simp only [ne_eq, not_true_eq_false, if_false] at hval
      refine Runs.seq' (M := fun st => K st ∧ lget st.loc 9 = some (v9, .cells [.int .i64 va, .int .i64 vb]) ∧ getE st.env 14 = .int .i64 n) (by simp [K, exec, aops, astep, wantedA, aop, evO, setO, setU, getE, getE_setE, lget, lget_lset, aBin, aInt, aUn, AV.cells, newVar, padd, rd, wr, asElem, single, splice, aStr, adraw, ascan, h1, h2, h3, h4, h5, h6, h7]) fun s1 ⟨⟨h1, h2, h3, h4, h5, h6⟩, h7, h8⟩ => ?_
      refine Runs.seq' (M := fun s1 => s1.mem = { blks := m.blks, touched := [] } ∧ getE s1.env 14 = .int .i64 (if k = 3 then va + vb else if k = 4 then va - vb else va * vb)) ?_ fun s1 ⟨h5, h6⟩ => hend _ s1 h6 h5 hval.symm
      have hk345 : k = 3 ∨ k = 4 ∨ k = 5 := by omega
      rcases hk345 with rfl | rfl | rfl
      · simp [exec, aops, astep, wantedA, aop, evO, setO, setU, getE, getE_setE, lget, lget_lset, aBin, aInt, aUn, AV.cells, newVar, padd, rd, wr, asElem, single, splice, aStr, adraw, ascan, h1, h2, h3, h4, h5, h6, h7, hw1]
      · simp [exec, aops, astep, wantedA, aop, evO, setO, setU, getE, getE_setE, lget, lget_lset, aBin, aInt, aUn, AV.cells, newVar, padd, rd, wr, asElem, single, splice, aStr, adraw, ascan, h1, h2, h3, h4, h5, h6, h7, hw2]
      · simp [exec, aops, astep, wantedA, aop, evO, setO, setU, getE, getE_setE, lget, lget_lset, aBin, aInt, aUn, AV.cells, newVar, padd, rd, wr, asElem, single, splice, aStr, adraw, ascan, h1, h2, h3, h4, h5, h6, h7, hw3]
  · have hl0 : l.length = 0 := by unfold shapeE at hs0; (repeat' split at hs0) <;> simp_all <;> omega
    have : l = [] := List.eq_nil_of_length_eq_zero hl0
    subst this
    simp only [Idx.avs] at h4
    let K : St → Prop := fun st => getE st.env 1 = strsAV cn ss ∧ getE st.env 2 = intsAV cb ns ∧ getE st.env 3 = .lptr 3 0 0 ∧ lget st.loc 3 = some (0, .cells [.int .i64 k, .int .i64 n, .str s, .list c []]) ∧ st.mem = { blks := m.blks, touched := [] }
    refine Runs.seq (M := K) ?_ fun s1 ⟨h1, h2, h3, h4, h5⟩ => ?_
    · let I : Nat → St → Prop := fun i st => K st ∧ getE st.env 23 = .int .i64 0 ∧ getE st.env 24 = .int .i64 i
      refine Runs.seq' (M := I 0) (by simp [I, K, exec, aops, astep, wantedA, aop, evO, setO, setU, getE, getE_setE, lget, lget_lset, aBin, aInt, aUn, AV.cells, newVar, padd, rd, wr, asElem, single, splice, aStr, adraw, ascan, h1, h2, h3, h4, h5, h6, h7]) fun s4 hI => ?_
      refine Runs.block (Runs.loop (I := I) 0 hI fun i st hi hst => ?_)
      obtain ⟨⟨h1, h2, h3, h4, h5⟩, q2, q3⟩ := hst
      have : i = 0 := by omega
      subst this
      right
      simp [K, l118_0, exec, aops, astep, wantedA, aop, evO, setO, setU, getE, getE_setE, lget, lget_lset, aBin, aInt, aUn, AV.cells, newVar, padd, rd, wr, asElem, single, splice, aStr, adraw, ascan, h1, h2, h3, h4, h5, q2, q3]
    · refine Runs.seq' (M := fun st => K st ∧ getE st.env 14 = .int .i64 n) (by simp [K, exec, aops, astep, wantedA, aop, evO, setO, setU, getE, getE_setE, lget, lget_lset, aBin, aInt, aUn, AV.cells, newVar, padd, rd, wr, asElem, single, splice, aStr, adraw, ascan, h1, h2, h3, h4, h5]) fun s1 ⟨⟨h1, h2, h3, h4, h5⟩, h8⟩ => ?_
      by_cases hk2 : k = 2
      · subst hk2
        simp only [intsAV] at h2
        have hpl := f85 (u := u) cn hcn ss s hlen
        rcases hf : ss.findIdx? (fun x => x == s) with _ | j
        · have hp : placeOf ss s = -1 := by simp [placeOf, hf]
          rw [hp] at hpl
          refine Runs.seq (M := fun _ => False) ?_ fun _ h => h.elim
          have hs0' : shapeE 2 n 0 = 0 := hs0
          simp [Fin, Runs, exec, aops, astep, wantedA, aop, evO, setO, setU, getE, getE_setE, lget, lget_lset, aBin, aInt, aUn, AV.cells, newVar, padd, rd, wr, asElem, single, splice, aStr, adraw, ascan, h1, h2, h3, h4, h5, hpl, Idx.val, Idx.vals, hs0', comb, hf, gets, RV.get, tupled, frz_two]
        · have hp : placeOf ss s = j := by simp [placeOf, hf]
          have hj : j < ss.length := by
            rw [List.findIdx?_eq_some_iff_getElem] at hf
            exact hf.1
          have hjn : j < ns.length := by omega
          rw [hp] at hpl
          have hj0 : ¬ ((j : Int) < 0) := by omega
          have hs0' : shapeE 2 n 0 = 0 := hs0
          have hv : (Idx.mk 2 n s c []).val ss ns = lim ns[j] := by simp [Idx.val, hs0', comb, hf, hjn]
          refine Runs.seq' (M := fun s1 => s1.mem = { blks := m.blks, touched := [] } ∧ getE s1.env 14 = .int .i64 ns[j]) (by simp [exec, aops, astep, wantedA, aop, evO, setO, setU, getE, getE_setE, lget, lget_lset, aBin, aInt, aUn, AV.cells, newVar, padd, rd, wr, asElem, single, splice, aStr, adraw, ascan, h1, h2, h3, h4, h5, hpl, hj0, hjn]) fun s1 ⟨h5, h6⟩ => hend _ s1 h6 h5 hv.symm
      · have hk1 : k = 1 := by omega
        subst hk1
        refine Runs.seq' (M := fun s1 => s1.mem = { blks := m.blks, touched := [] } ∧ getE s1.env 14 = .int .i64 n) (by simp [exec, aops, astep, wantedA, aop, evO, setO, setU, getE, getE_setE, lget, lget_lset, aBin, aInt, aUn, AV.cells, newVar, padd, rd, wr, asElem, single, splice, aStr, adraw, ascan, h1, h2, h3, h4, h5, h8]) fun s1 ⟨h5, h6⟩ => hend n s1 h6 h5 ?_
        have hs0' : shapeE 1 n 0 = 0 := hs0
        simp [Idx.val, hs0', comb]

end Go.Abs.Tz
