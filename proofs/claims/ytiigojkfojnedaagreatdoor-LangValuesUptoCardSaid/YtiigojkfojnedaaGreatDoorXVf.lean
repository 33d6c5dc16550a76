/- LangValues: the reference's value of an index. -/
import Derived.Test.YtiigojkfojnedaaGreatDoorXVc
set_option linter.unusedVariables false
set_option linter.unusedSimpArgs false
set_option maxRecDepth 100000
set_option maxHeartbeats 4000000
namespace Go.Abs.Tz
open Go.Abs
variable {u : Nat}

theorem frz_two (bs : List Blk) (n : Nat) (a b : Int) : frz bs n 8 (.tup [.int .i64 a, .int .i64 b]) = .tup [.int .i64 a, .int .i64 b] := rfl

/-- What both say of an index. -/
def ValAV (ss : List (List Nat)) (ns : List Int) (x : Idx) : AV := .tup [.int .i64 (x.val ss ns).1, .int .i64 (x.val ss ns).2]

theorem lim_ok {n : Int} (h1 : ¬ n < -1000000000) (h2 : ¬ 1000000000 < n) : lim n = (n, 0) := by simp [lim, h1, h2]
theorem lim_lo {n : Int} (h1 : n < -1000000000) : lim n = (0, 8) := by simp [lim, h1]
theorem lim_hi {n : Int} (h1 : 1000000000 < n) : lim n = (0, 8) := by simp [lim, h1]

theorem f116 (cn cb : Cap) (hcn : okCap cn) (hcb : okCap cb) (ss : List (List Nat)) (ns : List Int) (hlen : ss.length < 1000000000000) (hsn : ss.length = ns.length) (x : Idx) : x.Ok → ∀ m,
    cvl (C u) (.fn (.func 116) [] []) [x.av, strsAV cn ss, intsAV cb ns] m = some (ValAV ss ns x, m) := by
  refine Idx.ind' (Q := fun x => x.Ok → ∀ m, cvl (C u) (.fn (.func 116) [] []) [x.av, strsAV cn ss, intsAV cb ns] m = some (ValAV ss ns x, m)) (fun k n s c l ih hok m => ?_) x
  refine call_runs (g := g116) (by rfl) (by rfl) (by rfl) ?_
  have hsh := fun m => f181 (u := u) k n s c l m hok
  simp only [List.map_cons, List.map_nil, Idx.exp_av _ _ _ hok, exp_strs hcn, exp_ints hcb, g116, c116, ValAV]
  refine Runs.seq' (M := fun s1 => getE s1.env 1 = strsAV cn ss ∧ getE s1.env 2 = intsAV cb ns ∧ getE s1.env 3 = .lptr 3 0 0 ∧ lget s1.loc 3 = some (0, .cells [.int .i64 k, .int .i64 n, .str s, .list c (Idx.avs l)]) ∧
    s1.mem = { blks := m.blks, touched := [] }) (by simp [Idx.av, newVer, exec, aops, astep, wantedA, aop, evO, setO, setU, getE, getE_setE, lget, lget_lset, aBin, aInt, aUn, AV.cells, newVar, padd, rd, wr, asElem, single, splice, aStr, adraw, ascan]) fun s1 ⟨h1, h2, h3, h4, h5⟩ => ?_
  simp only [Idx.av] at hsh
  by_cases hs0 : shapeE k n l.length = 0
  case neg =>
    have hs1 : (shapeE k n l.length != 0) = true := by simpa using hs0
    refine Runs.seq (M := fun _ => False) ?_ fun _ h => h.elim
    simp [Runs, exec, aops, astep, wantedA, aop, evO, setO, setU, getE, getE_setE, lget, lget_lset, aBin, aInt, aUn, AV.cells, newVar, padd, rd, wr, asElem, single, splice, aStr, adraw, ascan, h1, h2, h3, h4, h5, hsh, hs1, Idx.val, hs0, gets, RV.get, tupled, frz_two]
  have hl : (Idx.avs l).length = l.length := avs_len l
  rw [hs0] at hsh
  refine Runs.seq' (M := fun s1 => getE s1.env 1 = strsAV cn ss ∧ getE s1.env 2 = intsAV cb ns ∧ getE s1.env 3 = .lptr 3 0 0 ∧ lget s1.loc 3 = some (0, .cells [.int .i64 k, .int .i64 n, .str s, .list c (Idx.avs l)]) ∧
    s1.mem = { blks := m.blks, touched := [] }) (by simp [exec, aops, astep, wantedA, aop, evO, setO, setU, getE, getE_setE, lget, lget_lset, aBin, aInt, aUn, AV.cells, newVar, padd, rd, wr, asElem, single, splice, aStr, adraw, ascan, h1, h2, h3, h4, h5, hsh]) fun s1 ⟨h1, h2, h3, h4, h5⟩ => ?_
  refine Runs.seq' (M := fun s1 => getE s1.env 1 = strsAV cn ss ∧ getE s1.env 2 = intsAV cb ns ∧ getE s1.env 3 = .lptr 3 0 0 ∧ lget s1.loc 3 = some (0, .cells [.int .i64 k, .int .i64 n, .str s, .list c (Idx.avs l)]) ∧
    s1.mem = { blks := m.blks, touched := [] } ∧ getE s1.env 9 = .int .i64 n) (by simp [exec, aops, astep, wantedA, aop, evO, setO, setU, getE, getE_setE, lget, lget_lset, aBin, aInt, aUn, AV.cells, newVar, padd, rd, wr, asElem, single, splice, aStr, adraw, ascan, h1, h2, h3, h4, h5]) fun s1 ⟨h1, h2, h3, h4, h5, h6⟩ => ?_
  -- the end: is the number within its bounds?
  have hend : ∀ (v : Int) (st : St), getE st.env 9 = .int .i64 v → st.mem = { blks := m.blks, touched := [] } → lim v = (Idx.mk k n s c l).val ss ns →
      Runs (C u).gl (cvl (C u)) (.seq (.seq (.ops [⟨(some 93), .mv (.t 9), none⟩, ⟨(some 94), .call (.c (.fn (.func 99) [] [])) [(.t 93), (.c (.int .i64 (-1000000000))), (.c (.int .i64 1000000000))], none⟩])
        (.cond (.t 94) (.seq (.ops [⟨(some 6), .mv (.c (.int .i64 0)), none⟩, ⟨(some 7), .mv (.c (.int .i64 8)), none⟩]) .ret) .skip))
        (.seq (.ops [⟨(some 95), .mv (.t 9), none⟩, ⟨(some 6), .mv (.t 95), none⟩, ⟨(some 7), .mv (.c (.int .i64 0)), none⟩]) .ret)) st
        fun r => (∀ (i : Nat), r.fst ≠ Ex.exit i) ∧ (∃ bs, r.snd.mem = { blks := m.blks ++ bs, touched := [] }) ∧ ∃ l_1, gets r.snd [RV.tmp 6, RV.tmp 7] = some l_1 ∧
          frz r.snd.mem.blks m.blks.length 8 (tupled l_1) = AV.tup [AV.int IntKind.i64 ((Idx.mk k n s c l).val ss ns).fst, AV.int IntKind.i64 ((Idx.mk k n s c l).val ss ns).snd] := by
    intro v st e1 e2 e3
    rw [← e3]
    by_cases g1 : v < -1000000000
    · rw [lim_lo g1]; simp [Runs, exec, aops, astep, wantedA, aop, evO, setO, setU, getE, getE_setE, lget, lget_lset, aBin, aInt, aUn, AV.cells, newVar, padd, rd, wr, asElem, single, splice, aStr, adraw, ascan, e1, e2, f99, g1, gets, RV.get, tupled, frz_two]
    by_cases g2 : 1000000000 < v
    · rw [lim_hi g2]; simp [Runs, exec, aops, astep, wantedA, aop, evO, setO, setU, getE, getE_setE, lget, lget_lset, aBin, aInt, aUn, AV.cells, newVar, padd, rd, wr, asElem, single, splice, aStr, adraw, ascan, e1, e2, f99, g1, g2, gets, RV.get, tupled, frz_two]
    · rw [lim_ok g1 g2]; simp [Runs, exec, aops, astep, wantedA, aop, evO, setO, setU, getE, getE_setE, lget, lget_lset, aBin, aInt, aUn, AV.cells, newVar, padd, rd, wr, asElem, single, splice, aStr, adraw, ascan, e1, e2, f99, g1, g2, gets, RV.get, tupled, frz_two]
  -- the kinds
  have hk : k = 1 ∨ k = 2 ∨ 3 ≤ k := by unfold shapeE at hs0; (repeat' split at hs0) <;> simp_all <;> omega
  rcases hk with rfl | rfl | hk3
  · refine Runs.seq' (M := fun s1 => s1.mem = { blks := m.blks, touched := [] } ∧ getE s1.env 9 = .int .i64 n ∧ getE s1.env 3 = .lptr 3 0 0 ∧ lget s1.loc 3 = some (0, .cells [.int .i64 1, .int .i64 n, .str s, .list c (Idx.avs l)])) (by simp [exec, aops, astep, wantedA, aop, evO, setO, setU, getE, getE_setE, lget, lget_lset, aBin, aInt, aUn, AV.cells, newVar, padd, rd, wr, asElem, single, splice, aStr, adraw, ascan, h1, h2, h3, h4, h5, h6]) fun s1 ⟨h5, h6, h3, h4⟩ => ?_
    refine Runs.seq' (M := fun s1 => s1.mem = { blks := m.blks, touched := [] } ∧ getE s1.env 9 = .int .i64 n) (by simp [exec, aops, astep, wantedA, aop, evO, setO, setU, getE, getE_setE, lget, lget_lset, aBin, aInt, aUn, AV.cells, newVar, padd, rd, wr, asElem, single, splice, aStr, adraw, ascan, h3, h4, h5, h6]) fun s1 ⟨h5, h6⟩ => ?_
    exact hend n s1 h6 h5 (by simp [Idx.val, hs0, comb])
  · refine Runs.seq (M := fun s1 => s1.mem = { blks := m.blks, touched := [] } ∧ getE s1.env 3 = .lptr 3 0 0 ∧ lget s1.loc 3 = some (0, .cells [.int .i64 2, .int .i64 n, .str s, .list c (Idx.avs l)]) ∧
      ∃ v, getE s1.env 9 = .int .i64 v ∧ lim v = (Idx.mk 2 n s c l).val ss ns) ?_ fun s1 ⟨h5, h3, h4, v, h6, h7⟩ => ?_
    · refine Runs.seq' (M := fun s1 => getE s1.env 1 = strsAV cn ss ∧ getE s1.env 2 = intsAV cb ns ∧ getE s1.env 3 = .lptr 3 0 0 ∧ lget s1.loc 3 = some (0, .cells [.int .i64 2, .int .i64 n, .str s, .list c (Idx.avs l)]) ∧
        s1.mem = { blks := m.blks, touched := [] } ∧ getE s1.env 24 = .bool true) (by simp [exec, aops, astep, wantedA, aop, evO, setO, setU, getE, getE_setE, lget, lget_lset, aBin, aInt, aUn, AV.cells, newVar, padd, rd, wr, asElem, single, splice, aStr, adraw, ascan, h1, h2, h3, h4, h5, h6]) fun s1 ⟨h1, h2, h3, h4, h5, h6⟩ => ?_
      have hcond : ∀ (a b : AC) (Q), Runs (C u).gl (cvl (C u)) a s1 Q → Runs (C u).gl (cvl (C u)) (.cond (.t 24) a b) s1 Q := fun a b Q h => by
        obtain ⟨r, q1, q2⟩ := h
        exact ⟨r, by simp [exec, evO, h6, q1], q2⟩
      refine hcond _ _ _ ?_
      refine Runs.seq' (M := fun s1 => getE s1.env 1 = strsAV cn ss ∧ getE s1.env 2 = intsAV cb ns ∧ getE s1.env 3 = .lptr 3 0 0 ∧ lget s1.loc 3 = some (0, .cells [.int .i64 2, .int .i64 n, .str s, .list c (Idx.avs l)]) ∧
        s1.mem = { blks := m.blks, touched := [] } ∧ getE s1.env 10 = .int .i64 (-1)) (by simp [exec, aops, astep, wantedA, aop, evO, setO, setU, getE, getE_setE, lget, lget_lset, aBin, aInt, aUn, AV.cells, newVar, padd, rd, wr, asElem, single, splice, aStr, adraw, ascan, h1, h2, h3, h4, h5, h6]) fun s1 ⟨h1, h2, h3, h4, h5, h6⟩ => ?_
      let K : St → Prop := fun st => getE st.env 1 = strsAV cn ss ∧ getE st.env 2 = intsAV cb ns ∧ getE st.env 3 = .lptr 3 0 0 ∧ lget st.loc 3 = some (0, .cells [.int .i64 2, .int .i64 n, .str s, .list c (Idx.avs l)]) ∧ st.mem = { blks := m.blks, touched := [] }
      refine Runs.seq (M := fun st => K st ∧ getE st.env 10 = .int .i64 (placeOf ss s) ∧ ∀ i, ss.findIdx? (fun x => x == s) = some i → i < ss.length) ?_ fun s2 ⟨⟨h1, h2, h3, h4, h5⟩, h6, h7⟩ => ?_
      · let I : Nat → St → Prop := fun i st => K st ∧ getE st.env 11 = .int .i64 i ∧ ((getE st.env 10 = .int .i64 (-1) ∧ ∀ j (hj : j < ss.length), j < i → ss[j] ≠ s) ∨ ∃ j, j < i ∧ j < ss.length ∧ ss.findIdx? (fun x => x == s) = some j ∧ getE st.env 10 = .int .i64 j)
        refine Runs.seq' (M := I 0) (by simp [I, K, exec, aops, astep, wantedA, aop, evO, setO, setU, getE, getE_setE, lget, lget_lset, aBin, aInt, aUn, AV.cells, newVar, padd, rd, wr, asElem, single, splice, aStr, adraw, ascan, h1, h2, h3, h4, h5, h6]) fun s4 hI => ?_
        refine Runs.block (Runs.loop (I := I) ss.length hI fun i st hi hst => ?_)
        obtain ⟨⟨q1, q2, q3, q4, q5⟩, q6, q7⟩ := hst
        simp only [strsAV] at q1
        rcases q7 with ⟨q7, q8⟩ | ⟨j, q7, q8, q9, q10⟩
        · by_cases hlt : i < ss.length
          · left
            have hw2 : IntKind.wrap .i64 ((i : Int) + 1) = (i : Int) + 1 := wrap_i64 (by omega) (by omega)
            refine ⟨hlt, ?_⟩
            by_cases he : ss[i] = s
            · have hp := placeOf_some hlt he q8
              simp [I, K, l116_0, exec, aops, astep, wantedA, aop, evO, setO, setU, getE, getE_setE, lget, lget_lset, aBin, aInt, aUn, AV.cells, newVar, padd, rd, wr, asElem, single, splice, aStr, adraw, ascan, q1, q2, q3, q4, q5, q6, q7, hlt, he, hw2, strsAV]
              exact ⟨i, by omega, hlt, hp, rfl⟩
            · simp [I, K, l116_0, exec, aops, astep, wantedA, aop, evO, setO, setU, getE, getE_setE, lget, lget_lset, aBin, aInt, aUn, AV.cells, newVar, padd, rd, wr, asElem, single, splice, aStr, adraw, ascan, q1, q2, q3, q4, q5, q6, q7, hlt, he, hw2, strsAV]
              intro j hj hji
              rcases Nat.lt_or_ge j i with h | h
              · exact q8 j hj h
              · have : j = i := by omega
                subst this; exact he
          · right
            have : i = ss.length := by omega
            subst this
            have hp := placeOf_none (fun j hj => q8 j hj hj)
            simp [K, l116_0, exec, aops, astep, wantedA, aop, evO, setO, setU, getE, getE_setE, lget, lget_lset, aBin, aInt, aUn, AV.cells, newVar, padd, rd, wr, asElem, single, splice, aStr, adraw, ascan, q1, q2, q3, q4, q5, q6, q7, strsAV, placeOf, hp]
        · right
          have hj0 : ¬ ((j : Int) < 0) := by omega
          have hjj : ∀ i', ss.findIdx? (fun x => x == s) = some i' → i' < ss.length := fun i' h => by rw [q9] at h; cases h; exact q8
          by_cases hlt : i < ss.length
          · simp [K, l116_0, exec, aops, astep, wantedA, aop, evO, setO, setU, getE, getE_setE, lget, lget_lset, aBin, aInt, aUn, AV.cells, newVar, padd, rd, wr, asElem, single, splice, aStr, adraw, ascan, q1, q2, q3, q4, q5, q6, q10, hj0, hlt, strsAV, placeOf, q9]
            exact q8
          · simp [K, l116_0, exec, aops, astep, wantedA, aop, evO, setO, setU, getE, getE_setE, lget, lget_lset, aBin, aInt, aUn, AV.cells, newVar, padd, rd, wr, asElem, single, splice, aStr, adraw, ascan, q1, q2, q3, q4, q5, q6, q10, hj0, hlt, strsAV, placeOf, q9]
            exact q8
      · simp only [intsAV] at h2
        rcases hf : ss.findIdx? (fun x => x == s) with _ | j
        · have hp : placeOf ss s = -1 := by simp [placeOf, hf]
          rw [hp] at h6
          simp [Runs, exec, aops, astep, wantedA, aop, evO, setO, setU, getE, getE_setE, lget, lget_lset, aBin, aInt, aUn, AV.cells, newVar, padd, rd, wr, asElem, single, splice, aStr, adraw, ascan, h1, h2, h3, h4, h5, h6, Idx.val, hs0, comb, hf, gets, RV.get, tupled, frz_two]
        · have hp : placeOf ss s = j := by simp [placeOf, hf]
          have hj := h7 j hf
          have hjn : j < ns.length := by omega
          rw [hp] at h6
          have hj0 : ¬ ((j : Int) < 0) := by omega
          have hv : (Idx.mk 2 n s c l).val ss ns = lim ns[j] := by simp [Idx.val, hs0, comb, hf, hjn]
          simp [Runs, exec, aops, astep, wantedA, aop, evO, setO, setU, getE, getE_setE, lget, lget_lset, aBin, aInt, aUn, AV.cells, newVar, padd, rd, wr, asElem, single, splice, aStr, adraw, ascan, h1, h2, h3, h4, h5, h6, hj0, hjn, hv]
    · refine Runs.seq' (M := fun s1 => s1.mem = { blks := m.blks, touched := [] } ∧ getE s1.env 9 = .int .i64 v) (by simp [exec, aops, astep, wantedA, aop, evO, setO, setU, getE, getE_setE, lget, lget_lset, aBin, aInt, aUn, AV.cells, newVar, padd, rd, wr, asElem, single, splice, aStr, adraw, ascan, h3, h4, h5, h6]) fun s1 ⟨h5, h6⟩ => ?_
      exact hend v s1 h6 h5 h7
  · have hk2 : (k == 2) = false := by simp; omega
    have hl2 : l.length = 2 := by unfold shapeE at hs0; (repeat' split at hs0) <;> simp_all <;> omega
    obtain ⟨a, b, rfl⟩ : ∃ a b, l = [a, b] := by
      match l, hl2 with
      | [a, b], _ => exact ⟨a, b, rfl⟩
    have iha := ih a (by simp) (hok.2.1)
    have ihb := ih b (by simp) (hok.2.2.1)
    have hba := Idx.val_le ss ns a
    have hbb := Idx.val_le ss ns b
    have hval : (Idx.mk k n s c [a, b]).val ss ns = if (a.val ss ns).2 ≠ 0 then (0, (a.val ss ns).2) else if (b.val ss ns).2 ≠ 0 then (0, (b.val ss ns).2) else lim (if k = 3 then (a.val ss ns).1 + (b.val ss ns).1 else if k = 4 then (a.val ss ns).1 - (b.val ss ns).1 else (a.val ss ns).1 * (b.val ss ns).1) := by
      have hk2' : ¬ k = 2 := by omega
      have hs0' : shapeE k n 2 = 0 := hs0
      simp [Idx.val, Idx.vals, hs0', comb, hk2', hk3]
    simp only [ValAV] at iha ihb
    generalize a.val ss ns = va at iha hval hba
    generalize b.val ss ns = vb at ihb hval hbb
    obtain ⟨va, ea⟩ := va
    obtain ⟨vb, eb⟩ := vb
    obtain ⟨ka, na, sa, ca, la⟩ := a
    obtain ⟨kb, nb, sb, cb', lb⟩ := b
    simp only [Idx.av] at iha ihb
    simp only [Idx.avs, Idx.av] at h4
    refine Runs.seq' (M := fun s1 => getE s1.env 1 = strsAV cn ss ∧ getE s1.env 2 = intsAV cb ns ∧ getE s1.env 3 = .lptr 3 0 0 ∧ lget s1.loc 3 = some (0, .cells [.int .i64 k, .int .i64 n, .str s, .list c [.agg [.int .i64 ka, .int .i64 na, .str sa, .list ca (Idx.avs la)], .agg [.int .i64 kb, .int .i64 nb, .str sb, .list cb' (Idx.avs lb)]]]) ∧
      s1.mem = { blks := m.blks, touched := [] }) (by simp [exec, aops, astep, wantedA, aop, evO, setO, setU, getE, getE_setE, lget, lget_lset, aBin, aInt, aUn, AV.cells, newVar, padd, rd, wr, asElem, single, splice, aStr, adraw, ascan, h1, h2, h3, h4, h5, h6, hk2]) fun s1 ⟨h1, h2, h3, h4, h5⟩ => ?_
    simp only at hval hba hbb
    have hw1 : IntKind.wrap .i64 (va + vb) = va + vb := wrap_i64 (by omega) (by omega)
    have hw2 : IntKind.wrap .i64 (va - vb) = va - vb := wrap_i64 (by omega) (by omega)
    have hmul : -1000000000000000000 ≤ va * vb ∧ va * vb ≤ 1000000000000000000 := mul_le hba hbb
    have hw3 : IntKind.wrap .i64 (va * vb) = va * vb := wrap_i64 (by omega) (by omega)
    by_cases hea : ea = 0
    · by_cases heb : eb = 0
      · subst hea heb
        simp only [ne_eq, not_true_eq_false, if_false] at hval
        refine Runs.seq' (M := fun s1 => s1.mem = { blks := m.blks, touched := [] } ∧ getE s1.env 9 = .int .i64 (if k = 3 then va + vb else if k = 4 then va - vb else va * vb)) ?_ fun s1 ⟨h5, h6⟩ => hend _ s1 h6 h5 hval.symm
        by_cases k3 : k = 3
        · subst k3
          simp [exec, aops, astep, wantedA, aop, evO, setO, setU, getE, getE_setE, lget, lget_lset, aBin, aInt, aUn, AV.cells, newVar, padd, rd, wr, asElem, single, splice, aStr, adraw, ascan, h1, h2, h3, h4, h5, iha, ihb, hw1]
        by_cases k4 : k = 4
        · subst k4
          simp [exec, aops, astep, wantedA, aop, evO, setO, setU, getE, getE_setE, lget, lget_lset, aBin, aInt, aUn, AV.cells, newVar, padd, rd, wr, asElem, single, splice, aStr, adraw, ascan, h1, h2, h3, h4, h5, iha, ihb, hw2]
        · have e3 : (k == 3) = false := by simpa using k3
          have e4 : (k == 4) = false := by simpa using k4
          simp [exec, aops, astep, wantedA, aop, evO, setO, setU, getE, getE_setE, lget, lget_lset, aBin, aInt, aUn, AV.cells, newVar, padd, rd, wr, asElem, single, splice, aStr, adraw, ascan, h1, h2, h3, h4, h5, iha, ihb, hw3, hk3, e3, e4, k3, k4]
      · have e1 : (eb != 0) = true := by simpa using heb
        refine Runs.seq (M := fun _ => False) ?_ fun _ h => h.elim
        simp [Runs, exec, aops, astep, wantedA, aop, evO, setO, setU, getE, getE_setE, lget, lget_lset, aBin, aInt, aUn, AV.cells, newVar, padd, rd, wr, asElem, single, splice, aStr, adraw, ascan, h1, h2, h3, h4, h5, iha, ihb, hk3, hea, e1, hval, heb, gets, RV.get, tupled, frz_two]
    · have e1 : (ea != 0) = true := by simpa using hea
      refine Runs.seq (M := fun _ => False) ?_ fun _ h => h.elim
      simp [Runs, exec, aops, astep, wantedA, aop, evO, setO, setU, getE, getE_setE, lget, lget_lset, aBin, aInt, aUn, AV.cells, newVar, padd, rd, wr, asElem, single, splice, aStr, adraw, ascan, h1, h2, h3, h4, h5, iha, hk3, e1, hval, hea, gets, RV.get, tupled, frz_two]

end Go.Abs.Tz
