/- LangValues: what each function of it answers: deep, both Values, awake, the whole. -/
import Derived.Test.YtiigojkfojnedaaGreatDoorXVi
import Derived.Test.YtiigojkfojnedaaGreatDoorXAwa
import Derived.Test.YtiigojkfojnedaaGreatDoorXAwb
import Derived.Test.YtiigojkfojnedaaGreatDoorXAwc
set_option linter.unusedVariables false
set_option linter.unusedSimpArgs false
set_option maxRecDepth 100000
set_option maxHeartbeats 8000000
namespace Go.Abs.Tz
open Go.Abs
variable {u : Nat}

theorem ofK {n : Nat} {fv : AV} {args : List AV} {m : Mem} {r : AV × Mem} (h : cvK (C u) n fv args m = some r) : cvl (C u) fv args m = some r := cvl_iff.2 ⟨n, cvK_spec (C u) n _ _ _ _ h⟩

theorem f18 (x : Idx) (hok : x.Ok) (hc : x.cnt < 100000000000) (m : Mem) : ∃ b, cvl (C u) (.fn (.func 18) [] []) [x.av, .int .i64 20] m = some (.bool b, m) := by
  obtain ⟨n', hn', hw⟩ := f96 (u := u) m.blks 20 x hok 0 [] (by omega)
  refine ⟨decide ((n' : Int) > 20), call_runs (g := g18) (by rfl) (by rfl) (by rfl) ?_⟩
  obtain ⟨k, n, s, c, l⟩ := x
  simp only [List.map_cons, List.map_nil, Idx.exp_av _ _ _ hok, exp, g18, c18]
  simp only [Idx.av] at hw ⊢
  let K : St → Prop := fun st => getE st.env 2 = .lptr 2 0 0 ∧ lget st.loc 2 = some (0, .cells [.int .i64 k, .int .i64 n, .str s, .list c (Idx.avs l)]) ∧ getE st.env 3 = .gptr m.blks.length 0
  refine Runs.seq' (M := fun st => K st ∧ st.mem = { blks := m.blks ++ [.cells [.int .i64 20]], touched := [] }) (by simp [K, newVer, exec, aops, astep, wantedA, aop, evO, setO, setU, getE, getE_setE, lget, lget_lset, aBin, aInt, aUn, AV.cells, newVar, padd, rd, wr, asElem, single, splice, aStr, adraw, ascan, Mem.push, Mem.nol, nol]) fun s1 ⟨⟨h1, h2, h3⟩, h4⟩ => ?_
  refine Runs.seq' (M := fun st => K st ∧ getE st.env 5 = .gptr (m.blks.length + 1) 0 ∧ st.mem = { blks := m.blks ++ [.cells [.int .i64 20], .cells [.int .i64 0]], touched := [] }) (by simp [K, exec, aops, astep, wantedA, aop, evO, setO, setU, getE, getE_setE, lget, lget_lset, aBin, aInt, aUn, AV.cells, newVar, padd, rd, wr, asElem, single, splice, aStr, adraw, ascan, h1, h2, h3, h4, Mem.push, Mem.put, Mem.nol, nol, los, lo]) fun s1 ⟨⟨h1, h2, h3⟩, h5, h4⟩ => ?_
  refine Runs.seq' (M := fun st => K st ∧ getE st.env 5 = .gptr (m.blks.length + 1) 0 ∧ getE st.env 6 = .gptr (m.blks.length + 2) 0 ∧ st.mem = { blks := m.blks ++ [.cells [.int .i64 20], .cells [.int .i64 0], .cells [.nilfn]], touched := [] }) (by simp [K, exec, aops, astep, wantedA, aop, evO, setO, setU, getE, getE_setE, lget, lget_lset, aBin, aInt, aUn, AV.cells, newVar, padd, rd, wr, asElem, single, splice, aStr, adraw, ascan, h1, h2, h3, h4, h5, Mem.push, Mem.nol, nol]) fun s1 ⟨⟨h1, h2, h3⟩, h5, h6, h4⟩ => ?_
  refine Runs.seq' (M := fun st => K st ∧ getE st.env 5 = .gptr (m.blks.length + 1) 0 ∧ getE st.env 6 = .gptr (m.blks.length + 2) 0 ∧ st.mem = { blks := dm m.blks 20 0, touched := [] }) (by simp [K, dm, exec, aops, astep, wantedA, aop, evO, setO, setU, getE, getE_setE, lget, lget_lset, aBin, aInt, aUn, AV.cells, newVar, padd, rd, wr, asElem, single, splice, aStr, adraw, ascan, h1, h2, h3, h4, h5, h6, Mem.put, Mem.nol, nol, nols, los, lo, Fn.below]) fun s1 ⟨⟨h1, h2, h3⟩, h5, h6, h4⟩ => ?_
  have d0 := dm0 m.blks 20
  have d1 := dm1 m.blks 20
  have d2 := dm2 m.blks 20
  have hw' : cvl (C u) (.fn (.func 96) [] [.gptr (m.blks.length + 1) 0, .gptr m.blks.length 0, .gptr (m.blks.length + 2) 0]) [.agg [.int .i64 k, .int .i64 n, .str s, .list c (Idx.avs l)]] { blks := dm m.blks 20 0, touched := [] } = some (.tup [], { blks := dm m.blks 20 n', touched := [] }) := by simpa using hw
  refine Runs.seq' (M := fun st => getE st.env 5 = .gptr (m.blks.length + 1) 0 ∧ getE st.env 3 = .gptr m.blks.length 0 ∧ st.mem = { blks := dm m.blks 20 n', touched := [] }) (by simp [exec, aops, astep, wantedA, aop, evO, setO, setU, getE, getE_setE, lget, lget_lset, aBin, aInt, aUn, AV.cells, newVar, padd, rd, wr, asElem, single, splice, aStr, adraw, ascan, h1, h2, h3, h4, h5, h6, d2, hw']) fun s1 ⟨h5, h3, h4⟩ => ?_
  simp [Runs, exec, aops, astep, wantedA, aop, evO, setO, setU, getE, getE_setE, lget, lget_lset, aBin, aInt, aUn, AV.cells, newVar, padd, rd, wr, asElem, single, splice, aStr, adraw, ascan, h3, h4, h5, d0, d1, gets, RV.get, tupled, frz_bool]
  exact ⟨_, rfl⟩

def ValueAV (ss : List (List Nat)) (ns : List Int) (x : Idx) : AV := .tup [.int .i64 (x.value ss ns).1, .int .i64 (x.value ss ns).2]

theorem f31 (cn cb : Cap) (hcn : okCap cn) (hcb : okCap cb) (ss : List (List Nat)) (ns : List Int) (hlen : ss.length < 1000000000000) (x : Idx) (hok : x.Ok) (hc : x.cnt < 1000000000000) (m : Mem) :
    cvl (C u) (.fn (.func 31) [] []) [x.av, strsAV cn ss, intsAV cb ns] m = some (ValueAV ss ns x, m) := by
  have h1 := fun m => f115 (u := u) x hok hc m
  have h2 := fun hsn m => f116 (u := u) cn cb hcn hcb ss ns hlen hsn x hok m
  have hv := rfl (a := x.value ss ns)
  refine call_runs (g := g31) (by rfl) (by rfl) (by rfl) ?_
  simp only [List.map_cons, List.map_nil, Idx.exp_av _ _ _ hok, exp_strs hcn, exp_ints hcb, ValueAV, Idx.value] at hv ⊢
  generalize x.cnt = cx at h1 hc hv
  simp only [ValAV] at h2
  generalize x.val ss ns = vx at h2 hv
  obtain ⟨k, n, s, c, l⟩ := x
  simp only [Idx.av, strsAV, intsAV] at h1 h2 ⊢
  by_cases hb : 9 < cx
  · have e1 : (9 : Int) < ((min cx 10 : Nat) : Int) := by omega
    simp [Runs, g31, c31, newVer, exec, aops, astep, wantedA, aop, evO, setO, setU, getE, getE_setE, lget, lget_lset, aBin, aInt, aUn, AV.cells, newVar, padd, rd, wr, asElem, single, splice, aStr, adraw, ascan, h1, e1, hb, gets, RV.get, tupled, frz_two]
  · have e1 : ¬ (9 : Int) < ((min cx 10 : Nat) : Int) := by omega
    by_cases hsn : ss.length = ns.length
    · have h2' := h2 hsn
      simp [Runs, g31, c31, newVer, exec, aops, astep, wantedA, aop, evO, setO, setU, getE, getE_setE, lget, lget_lset, aBin, aInt, aUn, AV.cells, newVar, padd, rd, wr, asElem, single, splice, aStr, adraw, ascan, h1, e1, hb, hsn, h2', gets, RV.get, tupled, frz_two]
    · have e2 : ((ss.length : Int) != (ns.length : Int)) = true := by simp; omega
      simp [Runs, g31, c31, newVer, exec, aops, astep, wantedA, aop, evO, setO, setU, getE, getE_setE, lget, lget_lset, aBin, aInt, aUn, AV.cells, newVar, padd, rd, wr, asElem, single, splice, aStr, adraw, ascan, h1, e1, hb, hsn, e2, gets, RV.get, tupled, frz_two]

theorem f32 (cn cb : Cap) (hcn : okCap cn) (hcb : okCap cb) (ss : List (List Nat)) (ns : List Int) (hlen : ss.length < 1000000000000) (x : Idx) (hok : x.Ok) (hc : x.cnt < 1000000000000) (m : Mem) :
    cvl (C u) (.fn (.func 32) [] []) [x.av, strsAV cn ss, intsAV cb ns] m = some (ValueAV ss ns x, m) := by
  have h1 := fun m => f117 (u := u) x hok hc m
  have h2 := fun hsn m => f118 (u := u) cn cb hcn hcb ss ns hlen hsn x hok m
  refine call_runs (g := g32) (by rfl) (by rfl) (by rfl) ?_
  simp only [List.map_cons, List.map_nil, Idx.exp_av _ _ _ hok, exp_strs hcn, exp_ints hcb, ValueAV, Idx.value]
  generalize x.cnt = cx at h1 hc
  simp only [ValAV] at h2
  generalize x.val ss ns = vx at h2
  obtain ⟨k, n, s, c, l⟩ := x
  simp only [Idx.av, strsAV, intsAV] at h1 h2 ⊢
  by_cases hb : 9 < cx
  · have e1 : (9 : Int) < (cx : Int) := by omega
    simp [Runs, g32, c32, newVer, exec, aops, astep, wantedA, aop, evO, setO, setU, getE, getE_setE, lget, lget_lset, aBin, aInt, aUn, AV.cells, newVar, padd, rd, wr, asElem, single, splice, aStr, adraw, ascan, h1, e1, hb, gets, RV.get, tupled, frz_two]
  · have e1 : ¬ (9 : Int) < (cx : Int) := by omega
    by_cases hsn : ss.length = ns.length
    · have h2' := h2 hsn
      simp [Runs, g32, c32, newVer, exec, aops, astep, wantedA, aop, evO, setO, setU, getE, getE_setE, lget, lget_lset, aBin, aInt, aUn, AV.cells, newVar, padd, rd, wr, asElem, single, splice, aStr, adraw, ascan, h1, e1, hb, hsn, h2', gets, RV.get, tupled, frz_two]
    · have e2 : ((ss.length : Int) != (ns.length : Int)) = true := by simp; omega
      simp [Runs, g32, c32, newVer, exec, aops, astep, wantedA, aop, evO, setO, setU, getE, getE_setE, lget, lget_lset, aBin, aInt, aUn, AV.cells, newVar, padd, rd, wr, asElem, single, splice, aStr, adraw, ascan, h1, e1, hb, hsn, e2, gets, RV.get, tupled, frz_two]

/-! ### awake: its nine calls are answered; the rest is reckoned by the kernel -/
noncomputable def tbl : List (Nat × List AV × AV) := [(39, a0, r0), (70, a1, r1), (72, a2, r2), (39, a3, r3), (39, a4, r4), (39, a5, r5), (26, a6, r6), (32, a7, r7), (56, a8, r8)]
def look (f : Nat) (args : List AV) : List (Nat × List AV × AV) → Option AV
  | [] => none
  | (f', a, r) :: l => cond (Nat.beq f f' && AV.beqs args a) (some r) (look f args l)
noncomputable def orc : CallV := fun fv args mem => match fv, mem with
  | .fn (.func f) [] [], ⟨[], []⟩ => (look f args tbl).map fun r => (r, ⟨[], []⟩)
  | _, _ => none

theorem look_spec {f : Nat} {args : List AV} {r : AV} : ∀ {l : List (Nat × List AV × AV)}, look f args l = some r → ∃ e ∈ l, e.1 = f ∧ e.2.1 = args ∧ e.2.2 = r := by
  intro l
  induction l with
  | nil => intro h; cases h
  | cons e l ih =>
    obtain ⟨f', a, r'⟩ := e
    intro h
    simp only [look] at h
    cases hb : Nat.beq f f' && AV.beqs args a with
    | true =>
      rw [hb] at h
      simp only [Bool.and_eq_true] at hb
      cases h
      exact ⟨_, List.mem_cons_self, (Nat.eq_of_beq_eq_true hb.1).symm, (AV.eq_of_beqs _ _ hb.2).symm, rfl⟩
    | false =>
      rw [hb] at h
      obtain ⟨e, h1, h2⟩ := ih h
      exact ⟨e, List.mem_cons_of_mem _ h1, h2⟩

theorem tbl_ok : ∀ e ∈ tbl, cvl (C u) (.fn (.func e.1) [] []) e.2.1 { blks := [], touched := [] } = some (e.2.2, { blks := [], touched := [] }) := by
  intro e he
  simp only [tbl, List.mem_cons, List.not_mem_nil, or_false] at he
  rcases he with rfl | rfl | rfl | rfl | rfl | rfl | rfl | rfl | rfl
  · exact ofK (aw0 u)
  · exact ofK (aw1 u)
  · exact ofK (aw2 u)
  · exact ofK (aw3 u)
  · exact ofK (aw4 u)
  · exact ofK (aw5 u)
  · exact ofK (aw6 u)
  · exact ofK (aw7 u)
  · exact ofK (aw8 u)

theorem orc_le : orc.le (cvl (C u)) := by
  intro fv args mem r h
  unfold orc at h
  split at h
  · obtain ⟨r', h1, rfl⟩ := Option.map_eq_some_iff.1 h
    obtain ⟨e, h2, rfl, rfl, rfl⟩ := look_spec h1
    exact tbl_ok e h2
  · cases h

theorem lpl_le : LoopV.le lpl lpl := by
  intro b b' hb s r h
  obtain ⟨n, hn⟩ := lpl_iff.1 h
  exact lpl_iff.2 ⟨n, aloop_mono n n (Nat.le_refl _) b b' hb s r hn⟩

noncomputable def awakeK (u : Nat) : Option (Bool × Mem) := match execK c19 (gl u) orc (fun _ _ => none) (ksOf [] { blks := [], touched := [] }) with
  | some (.ret, k) => match getT k.t 0 with
    | .bool b => some (b, k.mem)
    | _ => none
  | _ => none
theorem awakeK_eq (u : Nat) : awakeK u = some (true, { blks := [], touched := [] }) := by kernel_rfl

/-- awake. -/
theorem f19 : cvl (C u) (.fn (.func 19) [] []) [] { blks := [], touched := [] } = some (.bool true, { blks := [], touched := [] }) := by
  have h := awakeK_eq u
  unfold awakeK at h
  split at h
  · rename_i k hk
    split at h
    · rename_i b hb
      simp only [Option.some.injEq, Prod.mk.injEq] at h
      obtain ⟨rfl, hm⟩ := h
      obtain ⟨s', h1, h2⟩ := execK_spec (lp := lpl) (fun _ _ _ _ _ _ _ _ h => by cases h) c19 _ _ _ _ (ksOf_spec _ _) hk
      have h3 := exec_mono (orc_le (u := u)) lpl_le _ _ _ h1
      refine call_runs (g := g19) (by rfl) (by rfl) (by rfl) ⟨_, h3, by simp, ⟨[], ?_⟩, [.bool true], ?_, rfl⟩
      · rw [← h2.2.2.2, hm]; rfl
      · simp only [g19, gets, RV.get, ← h2.1, hb, Option.map_some]
    · cases h
  · cases h

end Go.Abs.Tz

/- LangValues answers true, in the executor. -/
set_option maxRecDepth 100000
set_option maxHeartbeats 8000000
namespace Go.Abs.Tz
open Go.Abs
variable {u : Nat}

theorem okc {α : Type} {c : Cap} {l : List α} (h : (c = .nil ∧ l = []) ∨ c = .any) : okCap c := by
  rcases h with ⟨rfl, _⟩ | rfl
  · exact .inl rfl
  · exact .inr rfl

theorem f4 (cn cb : Cap) (ss : List (List Nat)) (ns : List Int) (hcn : (cn = .nil ∧ ss = []) ∨ cn = .any) (hcb : (cb = .nil ∧ ns = []) ∨ cb = .any) (hss : ss.length < 100000000000) (hns : ns.length < 100000000000)
    (x : Idx) (hok : x.Ok) (hc : x.cnt < 100000000000) :
    cvl (C u) (.fn (.func 4) [] []) [x.av, strsAV cn ss, intsAV cb ns] { blks := [], touched := [] } = some (.bool true, { blks := [], touched := [] }) := by
  obtain ⟨b, hb⟩ := f18 (u := u) x hok hc { blks := [], touched := [] }
  have hcn' := okc hcn
  have hcb' := okc hcb
  have e21 := f21 (u := u) x hok (by omega) { blks := [], touched := [] }
  have e29 := f29 (u := u) cn ss hcn (by omega) { blks := [], touched := [] }
  have e30 := f30 (u := u) cb ns hcb (by omega) { blks := [], touched := [] }
  have e31 := f31 (u := u) cn cb hcn' hcb' ss ns (by omega) x hok (by omega) { blks := [], touched := [] }
  have e32 := f32 (u := u) cn cb hcn' hcb' ss ns (by omega) x.copy (copy_ok x) (by rw [copy_cnt]; omega) { blks := [], touched := [] }
  have e28 := f28 (u := u) x hok (by omega) { blks := [], touched := [] }
  have e33 := f33 (u := u) cn cn hcn' hcn' ss (by omega) { blks := [], touched := [] }
  have e34 := f34 (u := u) cb cb hcb' hcb' ns (by omega) { blks := [], touched := [] }
  have e19 := f19 (u := u)
  have hvv : ValueAV ss ns x.copy = ValueAV ss ns x := by simp only [ValueAV, Idx.value, copy_cnt, copy_val]
  rw [hvv] at e32
  simp only [ValueAV] at e31 e32
  generalize x.value ss ns = vx at e31 e32
  refine call_runs (g := g4) (by rfl) (by rfl) (by rfl) ?_
  simp only [List.map_cons, List.map_nil, Idx.exp_av _ _ _ hok, exp_strs hcn', exp_ints hcb', g4, c4]
  obtain ⟨k, n, s, c, l⟩ := x
  generalize (Idx.mk k n s c l).copy = y at e21 e32 e28
  obtain ⟨k', n', s', c', l'⟩ := y
  simp only [Idx.av] at *
  let K : St → Prop := fun st => getE st.env 1 = strsAV cn ss ∧ getE st.env 2 = intsAV cb ns ∧ getE st.env 3 = .lptr 3 0 0 ∧ lget st.loc 3 = some (0, .cells [.int .i64 k, .int .i64 n, .str s, .list c (Idx.avs l)]) ∧ st.mem = { blks := [], touched := [] }
  refine Runs.seq' (M := K) (by simp [K, newVer, exec, aops, astep, wantedA, aop, evO, setO, setU, getE, getE_setE, lget, lget_lset, aBin, aInt, aUn, AV.cells, newVar, padd, rd, wr, asElem, single, splice, aStr, adraw, ascan]) fun s1 ⟨h1, h2, h3, h4, h5⟩ => ?_
  have l1 : ∀ (st : St), getE st.env 1 = strsAV cn ss → evO (C u).gl st.env (.t 1) = .list cn (ss.map AV.str) := fun st h => h
  by_cases hbig : b = true ∨ 20 < ss.length ∨ 20 < ns.length
  · refine Runs.seq (M := fun _ => False) ?_ fun _ h => h.elim
    rcases b with _ | _
    · by_cases g1 : 20 < ss.length
      · have g1' : (20 : Int) < (ss.length : Int) := by omega
        simp only [strsAV, intsAV] at h1 h2
        simp [Runs, exec, aops, astep, wantedA, aop, evO, setO, setU, getE, getE_setE, lget, lget_lset, aBin, aInt, aUn, AV.cells, newVar, padd, rd, wr, asElem, single, splice, aStr, adraw, ascan, h1, h2, h3, h4, h5, hb, g1, g1', e19, gets, RV.get, tupled, frz_bool]
      · have g2 : 20 < ns.length := by simpa [g1] using hbig
        have g1' : ¬ (20 : Int) < (ss.length : Int) := by omega
        have g2' : (20 : Int) < (ns.length : Int) := by omega
        simp only [strsAV, intsAV] at h1 h2
        simp [Runs, exec, aops, astep, wantedA, aop, evO, setO, setU, getE, getE_setE, lget, lget_lset, aBin, aInt, aUn, AV.cells, newVar, padd, rd, wr, asElem, single, splice, aStr, adraw, ascan, h1, h2, h3, h4, h5, hb, g1, g1', g2, g2', e19, gets, RV.get, tupled, frz_bool]
    · simp only [strsAV, intsAV] at h1 h2
      simp [Runs, exec, aops, astep, wantedA, aop, evO, setO, setU, getE, getE_setE, lget, lget_lset, aBin, aInt, aUn, AV.cells, newVar, padd, rd, wr, asElem, single, splice, aStr, adraw, ascan, h1, h2, h3, h4, h5, hb, e19, gets, RV.get, tupled, frz_bool]
  · obtain ⟨g0, g1, g2⟩ : b = false ∧ ¬ 20 < ss.length ∧ ¬ 20 < ns.length := by
      cases b <;> simp_all
    subst g0
    have g1' : ¬ (20 : Int) < (ss.length : Int) := by omega
    have g2' : ¬ (20 : Int) < (ns.length : Int) := by omega
    refine Runs.seq' (M := K) (by
      simp only [strsAV, intsAV] at h1 h2
      simp [K, exec, aops, astep, wantedA, aop, evO, setO, setU, getE, getE_setE, lget, lget_lset, aBin, aInt, aUn, AV.cells, newVar, padd, rd, wr, asElem, single, splice, aStr, adraw, ascan, strsAV, intsAV, h1, h2, h3, h4, h5, hb, g1, g1', g2, g2']) fun s1 ⟨h1, h2, h3, h4, h5⟩ => ?_
    let K2 : St → Prop := fun st => K st ∧ getE st.env 8 = strsAV cn ss ∧ getE st.env 9 = intsAV cb ns ∧ ∃ v, getE st.env 7 = .lptr 7 v 0 ∧ lget st.loc 7 = some (v, .cells [.int .i64 k', .int .i64 n', .str s', .list c' (Idx.avs l')])
    refine Runs.seq' (M := K2) (by simp [K, K2, exec, aops, astep, wantedA, aop, evO, setO, setU, getE, getE_setE, lget, lget_lset, aBin, aInt, aUn, AV.cells, newVar, padd, rd, wr, asElem, single, splice, aStr, adraw, ascan, h1, h2, h3, h4, h5, e21, e29, e30]) fun s1 ⟨⟨h1, h2, h3, h4, h5⟩, h6, h7, v, h8, h9⟩ => ?_
    refine Runs.seq' (M := fun st => K2 st ∧ getE st.env 10 = .int .i64 vx.1 ∧ getE st.env 11 = .int .i64 vx.2) (by simp [K, K2, exec, aops, astep, wantedA, aop, evO, setO, setU, getE, getE_setE, lget, lget_lset, aBin, aInt, aUn, AV.cells, newVar, padd, rd, wr, asElem, single, splice, aStr, adraw, ascan, h1, h2, h3, h4, h5, h6, h7, h8, h9, e31]) fun s1 ⟨⟨⟨h1, h2, h3, h4, h5⟩, h6, h7, v, h8, h9⟩, h10, h11⟩ => ?_
    refine Runs.seq' (M := fun st => K2 st ∧ getE st.env 10 = .int .i64 vx.1 ∧ getE st.env 11 = .int .i64 vx.2 ∧ getE st.env 12 = .int .i64 vx.1 ∧ getE st.env 13 = .int .i64 vx.2) (by simp [K, K2, exec, aops, astep, wantedA, aop, evO, setO, setU, getE, getE_setE, lget, lget_lset, aBin, aInt, aUn, AV.cells, newVar, padd, rd, wr, asElem, single, splice, aStr, adraw, ascan, h1, h2, h3, h4, h5, h6, h7, h8, h9, h10, h11, e32]) fun s1 ⟨⟨⟨h1, h2, h3, h4, h5⟩, h6, h7, v, h8, h9⟩, h10, h11, h12, h13⟩ => ?_
    simp [Runs, exec, aops, astep, wantedA, aop, evO, setO, setU, getE, getE_setE, lget, lget_lset, aBin, aInt, aUn, AV.cells, newVar, padd, rd, wr, asElem, single, splice, aStr, adraw, ascan, h1, h2, h3, h4, h5, h6, h7, h8, h9, h10, h11, h12, h13, e28, e33, e34, e19, gets, RV.get, tupled, frz_bool]

end Go.Abs.Tz
