/- Each operation's answer by the executor is the machine's: maps that are written, texts' iterators, comparisons of structs; all operations together. -/
import Derived.Test.YtiigojkfojnedaaGreatDoorXN
set_option linter.unusedVariables false
set_option linter.unusedSimpArgs false
namespace Go.Abs

mutual
theorem exp_plain (n : Nat) (k : Bool) : ∀ v : AV, plain v = true → exp n k v = v
  | .undef, _ => rfl
  | .junk, _ => rfl
  | .int _ _, _ => rfl
  | .bool _, _ => rfl
  | .str _, _ => rfl
  | .nilp, _ => rfl
  | .lptr _ _ _, h => by simp [plain] at h
  | .gptr _ _, h => by simp [plain] at h
  | .ref _, h => by simp [plain] at h
  | .list c l, h => by
    simp only [plain, Bool.and_eq_true, Bool.or_eq_true, decide_eq_true_eq] at h
    obtain ⟨rfl | rfl, h⟩ := h <;> simp only [exp, Cap.exp, exps_plain n k l h]
  | .sl _ _ _ _ _, h => by simp [plain] at h
  | .agg l, h => by simp only [plain] at h; simp only [exp, exps_plain n k l h]
  | .tup l, h => by simp only [plain] at h; simp only [exp, exps_plain n k l h]
  | .fn (.func f) [] [], _ => rfl
  | .fn (.func f) (_ :: _) _, h => by simp [plain] at h
  | .fn (.func f) [] (_ :: _), h => by simp [plain] at h
  | .fn (.method _) _ _, h => by simp [plain] at h
  | .fn (.methodOf _ _) _ _, h => by simp [plain] at h
  | .fn (.via _ _ _ _) _ _, h => by simp [plain] at h
  | .fn (.yield _) _ _, h => by simp [plain] at h
  | .nilfn, _ => rfl
  | .iface t v, h => by simp only [plain] at h; simp only [exp, exp_plain n k v h]
  | .nilif, _ => rfl
  | .map _, h => by simp [plain] at h
  | .nilmap, _ => rfl
theorem exps_plain (n : Nat) (k : Bool) : ∀ l : List AV, plains l = true → exps n k l = l
  | [], _ => rfl
  | v :: l, h => by
    simp only [plains, Bool.and_eq_true] at h
    simp only [exps, exp_plain n k v h.1, exps_plain n k l h.2]
end

mutual
theorem lo_plain (n : Nat) : ∀ v : AV, plain v = true → lo n v = true
  | .undef, _ => rfl
  | .junk, _ => rfl
  | .int _ _, _ => rfl
  | .bool _, _ => rfl
  | .str _, _ => rfl
  | .nilp, _ => rfl
  | .lptr _ _ _, h => by simp [plain] at h
  | .gptr _ _, h => by simp [plain] at h
  | .ref _, h => by simp [plain] at h
  | .list c l, h => by
    simp only [plain, Bool.and_eq_true, Bool.or_eq_true, decide_eq_true_eq] at h
    obtain ⟨rfl | rfl, h⟩ := h <;> simp only [lo, Cap.lo, los_plain n l h, Bool.and_self]
  | .sl _ _ _ _ _, h => by simp [plain] at h
  | .agg l, h => by simp only [plain] at h; simp only [lo, los_plain n l h]
  | .tup l, h => by simp only [plain] at h; simp only [lo, los_plain n l h]
  | .fn (.func f) [] [], _ => rfl
  | .fn (.func f) (_ :: _) _, h => by simp [plain] at h
  | .fn (.func f) [] (_ :: _), h => by simp [plain] at h
  | .fn (.method _) _ _, h => by simp [plain] at h
  | .fn (.methodOf _ _) _ _, h => by simp [plain] at h
  | .fn (.via _ _ _ _) _ _, h => by simp [plain] at h
  | .fn (.yield _) _ _, h => by simp [plain] at h
  | .nilfn, _ => rfl
  | .iface t v, h => by simp only [plain] at h; simp only [lo, lo_plain n v h]
  | .nilif, _ => rfl
  | .map _, h => by simp [plain] at h
  | .nilmap, _ => rfl
theorem los_plain (n : Nat) : ∀ l : List AV, plains l = true → los n l = true
  | [], _ => rfl
  | v :: l, h => by
    simp only [plains, Bool.and_eq_true] at h
    simp only [los, lo_plain n v h.1, los_plain n l h.2, Bool.and_self]
end

section
variable {P : Program} {base : Nat} {LC : LCR} {g : Gh} {lb : LB} {own : OW} {loc : Nat → Option (Nat × Blk)} {mem : Mem} {w : World} {esc : Nat → Bool} {callv : CallV}
variable {ev : Opd → AV} {a : Act} {o : Oper} {ao : AO} {v : AV} {u : Upd} {m' : Mem}

theorem VR.plain {v : AV} {x : Value} (h : VR g lb v x) (hp : plain v = true) : VR g noLB v x := by
  have h1 := VR.exp (lb' := noLB) 0 true h
  rw [exp_plain 0 true v hp] at h1
  have hs : (g.cut 0).sub g := by
    refine ⟨fun _ _ _ h => h, fun id b hb => ?_, fun t n x hx => ?_⟩
    · simp [Gh.cut] at hb
    · simp [Gh.cut] at hx
  exact VR.sub hs h1

theorem key_no {kk : KK} {k : AV} {x : Value} (h : VR g lb k x) (hk : isKey kk k = true) : VR g noLB k x := by
  refine h.plain ?_
  cases kk <;> cases k <;> simp_all [isKey, Abs.plain]

theorem same_key {lb' : LB} {k k' : AV} {x x' : Value} (h : VR g lb k x) (h' : VR g lb' k' x') (he : keyEq k k' = some true) : ∀ n, Instr.sameBits n x' x = true := by
  intro n
  cases k <;> cases k' <;> simp [keyEq] at he
  · cases h; cases h'; obtain ⟨rfl, rfl⟩ := he; cases n <;> simp [Instr.sameBits]
  · cases h; cases h'; subst he; cases n <;> simp [Instr.sameBits]
  · cases h; cases h'
    rename_i b1 h1 b2 h2
    subst he
    have : b2.data.toList = b1.data.toList := nats_inj (h2.trans h1.symm)
    have hb : b2 = b1 := by
      obtain ⟨⟨l1⟩⟩ := b1; obtain ⟨⟨l2⟩⟩ := b2
      simp at this; subst this; rfl
    subst hb
    have : (b2 == b2) = true := by rw [beq_toListBytes]; simp
    cases n <;> simp [Instr.sameBits, this]

theorem key_plain {kk : KK} {k : AV} (hk : isKey kk k = true) : plain k = true := by
  unfold isKey at hk
  split at hk <;> first | rfl | (cases hk; done)

theorem op_mapup (hev : EvOK g lb ev a) (hm : MemR g own LC mem w) (hl : LocR g lb own loc w) (ho : OwnR base own w) {t : TypeId} {x y z : Operand} (hop : o.op = .mapUpdate t x y z)
    (hc : copO P esc o = some ao) (hr : aop ev loc mem callv o.dst ao = some (v, u, m')) : OpOK P base LC g lb own loc w a o v u m' := by
  simp only [copO, hop] at hc
  split at hc
  · rename_i kt et x' y' z' hu hx hy hz
    simp only [Option.map_eq_some_iff] at hc
    obtain ⟨kk, hkk, rfl⟩ := hc
    simp only [aop] at hr
    split at hr
    · rename_i id e1
      split at hr
      · rename_i es he
        split at hr
        · rename_i hchk
          simp only [Bool.and_eq_true] at hchk
          obtain ⟨hkey, hpl⟩ := hchk
          simp only [Option.map_eq_some_iff, Prod.mk.injEq] at hr
          obtain ⟨es', hes', rfl, rfl, rfl⟩ := hr
          have k1 := hev _ _ hx
          rw [e1] at k1
          obtain ⟨xv, hxe⟩ : ∃ xv, a.eval x = xv := ⟨_, rfl⟩
          rw [hxe] at k1
          obtain ⟨b, ents, clock, rfl, h2, h3, h4, h5, h6, h7, h8⟩ := map_spec hm k1 he
          have hid : id < mem.blks.length := hm.dom id b h2
          obtain ⟨hck, d, hud, hsn⟩ := key_spec (P := P) (w := w) hkk hkey (hev _ _ hy) false
          have hkv := key_no (hev _ _ hy) hkey
          have hzv := (hev _ _ hz).plain hpl
          have hms := mset_spec es es' 0 hes'
          have hfn := findNow_ok hsn es ents.toList 0 (by simpa using h6.symm) (fun j h h' => by have := h7 j h (by simpa using h'); simpa using this) (by rcases hms with ⟨h, _⟩ | ⟨_, _, h, _⟩ <;> rw [h] <;> simp)
          rcases hms with ⟨f1, f2, rfl⟩ | ⟨j, v', f1, f2, f3, rfl⟩
          · have g2 : Instr.findNow d (a.eval y) ents.toList 0 = some none := by
              rcases hfn with ⟨_, g2, _⟩ | ⟨j, v', g1, _⟩
              · exact g2
              · rw [f1] at g1; cases g1
            have hfk : (Instr.findKey kt (a.eval y) ents.toList).run P w = .ok none w := run_findKey' hud g2
            refine ⟨undef, setObjW w b (.map (ents.push { key := a.eval y, val := a.eval z, born := clock }) (clock + 1)), .inr ⟨?_, rfl⟩, setObj_post hm hl ho h3 hid h4 ?_⟩
            · simp only [execOp, hop, hxe, Instr.mapUpdate, Sem.run_bind, run_underlying hu, Result.andThen_ok, run_getObj_map h5, hck, hfk, run_setObj_map h5]; rfl
            · refine ⟨b, h2, h3, h4, _, _, setObjW_at h5 _, by simp [h6], fun i hi hi' => ?_, fun p hp => ?_⟩
              rcases Nat.lt_or_ge i es.length with hlt | hge
              · have hlt' : i < ents.size := by omega
                simp only [List.getElem_append_left hlt, Array.getElem_push, hlt', dite_true]
                exact h7 i hlt hlt'
              · have hi2 : i = es.length := by simp at hi; omega
                subst hi2
                have : ¬ es.length < ents.size := by omega
                simp only [List.getElem_append_right (Nat.le_refl _), Nat.sub_self, List.getElem_cons_zero, Array.getElem_push, this, dite_false]
                exact ⟨hkv, hzv⟩
              · rcases List.mem_append.1 hp with hp | hp
                · exact h8 p hp
                · obtain rfl : p = _ := by simpa using hp
                  exact ⟨key_plain hkey, hpl⟩
          · obtain ⟨hj, hkj⟩ := f3
            obtain ⟨hj', hfk⟩ : ∃ hj' : j < ents.size, (Instr.findKey kt (a.eval y) ents.toList).run P w = .ok (some (j, ents[j].val)) w := by
              rcases hfn with ⟨g1, _⟩ | ⟨j2, v2, g1, g2, g3, g4, g5, g6⟩
              · rw [f1] at g1; cases g1
              · rw [f2] at g2
                simp only [Option.some.injEq, Prod.mk.injEq, Nat.zero_add] at g2
                obtain ⟨rfl, -⟩ := g2
                refine ⟨by simpa using g4, ?_⟩
                have := run_findKey' (P := P) (w := w) hud g6
                simpa using this
            have hsame := same_key (hev _ _ hy) (h7 j hj hj').1 hkj 10000
            refine ⟨undef, setObjW w b (.map (ents.modify j fun e => { e with key := a.eval y, val := a.eval z }) clock), .inr ⟨?_, rfl⟩, setObj_post hm hl ho h3 hid h4 ?_⟩
            · simp only [execOp, hop, hxe, Instr.mapUpdate, Sem.run_bind, run_underlying hu, Result.andThen_ok, run_getObj_map h5, hck, hfk, Array.getElem?_eq_getElem hj', Option.map_some, Option.getD_some, Instr.keyThatStays, hsame, if_true, Sem.run_pure, run_setObj_map h5]
            · refine ⟨b, h2, h3, h4, _, _, setObjW_at h5 _, by simp [h6], fun i hi hi' => ?_, fun p hp => ?_⟩
              have hi2 : i < es.length := by simpa using hi
              have hi3 : i < ents.size := by omega
              simp only [List.getElem_set, Array.getElem_modify]
              by_cases hij : j = i
              · subst hij; simp only [if_true]; exact ⟨hkv, hzv⟩
              · simp only [hij, if_false]; exact h7 i hi2 hi3
              · rcases List.mem_or_eq_of_mem_set hp with hp | rfl
                · exact h8 p hp
                · exact ⟨key_plain hkey, hpl⟩
        · cases hr
      · cases hr
    · cases hr
  · cases hc


theorem op_mkmap (hm : MemR g own LC mem w) (hl : LocR g lb own loc w) (ho : OwnR base own w) {t : TypeId} (hop : o.op = .makeMap t none)
    (hc : copO P esc o = some ao) (hr : aop ev loc mem callv o.dst ao = some (v, u, m')) : OpOK P base LC g lb own loc w a o v u m' := by
  simp only [copO, hop] at hc
  cases hc
  simp only [aop, Option.some.injEq, Prod.mk.injEq] at hr
  obtain ⟨rfl, rfl, rfl⟩ := hr
  let g' : Gh := { g with mb := fun id => if id = mem.blks.length then some w.heap.size else g.mb id }
  have hsub : g.sub g' := ⟨fun _ _ _ h => h, fun id b hb => by
    have := hm.dom id b hb
    simp only [g']; rw [if_neg (by omega)]; exact hb, fun _ _ _ h => h⟩
  have hst := Steps'.alloc g own w (.map #[] 0) (some (.m mem.blks.length))
  refine ⟨.map (some w.heap.size), w.alloc (.map #[] 0), .inl ?_, g', lb, _, ⟨hsub, hst.size, hst.os, hst.tape, hst.output, hst.keep, hst.unown, hst.im⟩, fun _ _ _ h => h, .map _ _ _ (by simp [g']), ?_, ?_, ho.alloc _ _⟩
  · simp only [execOp, hop, Option.map_none, Instr.makeMap, Sem.run_bind, run_newObj, Result.andThen_ok, Sem.run_pure]; rfl
  · refine hm.push (hm.alloc ho _ _) _ _ (fun id b hb => ?_) (fun id hid => ?_) ?_
    · split at hb
      · exact .inr (by assumption)
      · exact .inl hb
    · exact if_neg (by omega)
    · exact ⟨w.heap.size, by simp, by simp [ownNew], (show ∀ o, g.im w.heap.size o = none from im_new hm), #[], 0, heap_alloc_at w _, rfl, fun i h => by simp at h, fun p hp => by cases hp⟩
  · exact (hl.alloc ho _ _).keep hsub fun _ _ _ => ⟨rfl, rfl, fun _ => rfl⟩


theorem op_del (hev : EvOK g lb ev a) (hm : MemR g own LC mem w) (hl : LocR g lb own loc w) (ho : OwnR base own w) {c : Call} (hop : o.op = .call c) (hb : c.callee = .builtin .delete)
    (hc : copO P esc o = some ao) (hr : aop ev loc mem callv o.dst ao = some (v, u, m')) : OpOK P base LC g lb own loc w a o v u m' := by
  simp only [copO, hop, hb] at hc
  split at hc
  · rename_i x y t ts hargs htys
    split at hc
    · rename_i kt et x' y' hu hx hy
      simp only [Option.map_eq_some_iff] at hc
      obtain ⟨kk, hkk, rfl⟩ := hc
      have hargs' : (c.args.map a.eval) = #[a.eval x, a.eval y] := by
        have : (c.args.map a.eval).toList = [a.eval x, a.eval y] := by simp [hargs]
        rw [← Array.toArray_toList (xs := c.args.map a.eval), this]
      have htys' : c.argTypes[0]? = some t := by rw [← Array.getElem?_toList, htys]; rfl
      simp only [aop] at hr
      split at hr
      · rename_i id e1
        split at hr
        · rename_i es he
          split at hr
          · rename_i hkey
            simp only [Option.map_eq_some_iff, Prod.mk.injEq] at hr
            obtain ⟨es', hes', rfl, rfl, rfl⟩ := hr
            have k1 := hev _ _ hx
            rw [e1] at k1
            obtain ⟨xv, hxe⟩ : ∃ xv, a.eval x = xv := ⟨_, rfl⟩
            rw [hxe] at k1
            obtain ⟨b, ents, clock, rfl, h2, h3, h4, h5, h6, h7, h8⟩ := map_spec hm k1 he
            have hid : id < mem.blks.length := hm.dom id b h2
            obtain ⟨hck, d, hud, hsn⟩ := key_spec (P := P) (w := w) hkk hkey (hev _ _ hy) ents.isEmpty
            have hms := mdel_spec es es' 0 hes'
            have hfn := findNow_ok hsn es ents.toList 0 (by simpa using h6.symm) (fun j h h' => by have := h7 j h (by simpa using h'); simpa using this) (by rcases hms with ⟨h, _⟩ | ⟨_, _, h, _⟩ <;> rw [h] <;> simp)
            rcases hms with ⟨f1, f2, rfl⟩ | ⟨j, v', f1, f2, hj, rfl⟩
            · have g2 : Instr.findNow d (a.eval y) ents.toList 0 = some none := by
                rcases hfn with ⟨_, g2, _⟩ | ⟨j, v', g1, _⟩
                · exact g2
                · rw [f1] at g1; cases g1
              have hfk : (Instr.findKey kt (a.eval y) ents.toList).run P w = .ok none w := run_findKey' hud g2
              refine ⟨undef, setObjW w b (.map ents clock), .inl ?_, setObj_post hm hl ho h3 hid h4 ⟨b, h2, h3, h4, _, _, setObjW_at h5 _, h6, h7, h8⟩⟩
              simp only [execOp, hop, resolve, hb, hargs', Sem.run_bind, Sem.run_pure, Result.andThen_ok, invoke, builtin, Builtin.delete_, htys', hxe]
              simp [run_underlying hu, run_getObj_map h5, hck, hfk, run_setObj_map h5, undef]
            · obtain ⟨hj', hfk⟩ : ∃ hj' : j < ents.size, (Instr.findKey kt (a.eval y) ents.toList).run P w = .ok (some (j, ents[j].val)) w := by
                rcases hfn with ⟨g1, _⟩ | ⟨j2, v2, g1, g2, g3, g4, g5, g6⟩
                · rw [f1] at g1; cases g1
                · rw [f2] at g2
                  simp only [Option.some.injEq, Prod.mk.injEq, Nat.zero_add] at g2
                  obtain ⟨rfl, -⟩ := g2
                  refine ⟨by simpa using g4, ?_⟩
                  have := run_findKey' (P := P) (w := w) hud g6
                  simpa using this
              refine ⟨undef, setObjW w b (.map (ents.eraseIdxIfInBounds j) clock), .inl ?_, setObj_post hm hl ho h3 hid h4 ⟨b, h2, h3, h4, _, _, setObjW_at h5 _, ?_, fun i hi hi' => ?_, fun p hp => h8 p (List.mem_of_mem_eraseIdx hp)⟩⟩
              · simp only [execOp, hop, resolve, hb, hargs', Sem.run_bind, Sem.run_pure, Result.andThen_ok, invoke, builtin, Builtin.delete_, htys', hxe]
                simp [run_underlying hu, run_getObj_map h5, hck, hfk, run_setObj_map h5, undef]
              · have e1 : (ents.eraseIdxIfInBounds j).size = ents.size - 1 := by simp [Array.eraseIdxIfInBounds, hj']
                rw [e1, List.length_eraseIdx_of_lt hj, h6]
              · have e1 : (ents.eraseIdxIfInBounds j) = ents.eraseIdx j hj' := by simp [Array.eraseIdxIfInBounds, hj']
                have hi2 : i < es.length - 1 := by rw [List.length_eraseIdx_of_lt hj] at hi; exact hi
                simp only [e1, List.getElem_eraseIdx, Array.getElem_eraseIdx]
                by_cases hij : i < j
                · simp only [hij, dite_true]; exact h7 i (by omega) (by omega)
                · simp only [hij, dite_false]; exact h7 (i + 1) (by omega) (by omega)
          · cases hr
        · cases hr
      · cases hr
    · cases hc
  · cases hc

theorem op_rng (hev : EvOK g lb ev a) (hm : MemR g own LC mem w) (hl : LocR g lb own loc w) (ho : OwnR base own w) {t : TypeId} {x : Operand} (hop : o.op = .range t x)
    (hc : copO P esc o = some ao) (hr : aop ev loc mem callv o.dst ao = some (v, u, m')) : OpOK P base LC g lb own loc w a o v u m' := by
  simp only [copO, hop] at hc
  split at hc
  · rename_i x' hu hx
    cases hc
    simp only [aop] at hr
    split at hr
    · rename_i s d e1 e2
      simp only [Option.some.injEq, Prod.mk.injEq] at hr
      obtain ⟨rfl, rfl, rfl⟩ := hr
      have k1 := hev _ _ hx
      rw [e1] at k1
      obtain ⟨xv, hxe⟩ : ∃ xv, a.eval x = xv := ⟨_, rfl⟩
      rw [hxe] at k1
      cases k1 with
      | str _ bs _ hbs =>
        refine ⟨.pointer (some ⟨w.heap.size, 0, none⟩), w.alloc (.stringIter bs 0), .inl ?_, g, lbNew lb d (newVer loc d) w.heap.size, _, .alloc g own w _ (some (.l d)), lbNew_sub hl d _, .lptr _ _ _ _ _ (by simp [lbNew]), hm.alloc ho _ _, ?_, ho.alloc _ _⟩
        · simp only [execOp, hop, hxe, Instr.range, Sem.run_bind, run_underlying hu, Result.andThen_ok, Sem.run_pure, run_newObj]; rfl
        · refine hl.new ho d _ _ (fun l' hl' => by cases hl') (fun s' pos h => ?_)
          cases h
          exact ⟨im_new hm, bs, rfl, hbs⟩
    · cases hr
  · cases hc

theorem run_getObj_iter {b : Nat} {bs : ByteArray} {pos : Nat} (h : w.heap[b]? = some (.stringIter bs pos)) : (getObj b).run P w = .ok (.stringIter bs pos) w := by
  simp only [getObj, Sem.run, h]
theorem run_setObj_iter {b : Nat} {bs : ByteArray} {pos : Nat} (h : w.heap[b]? = some (.stringIter bs pos)) (x : Obj) : (setObj b x).run P w = .ok () (setObjW w b x) := by
  simp only [setObj, Sem.run, h]; rfl

theorem bytes_of {bs : ByteArray} {s : List Nat} (h : bs.data.toList.map UInt8.toNat = s) : (⟨(s.map UInt8.ofNat).toArray⟩ : ByteArray) = bs := by
  subst h
  obtain ⟨⟨l⟩⟩ := bs
  simp [List.map_map, Function.comp_def]

theorem op_nxt (hev : EvOK g lb ev a) (hm : MemR g own LC mem w) (hl : LocR g lb own loc w) (ho : OwnR base own w) {x : Operand} (hop : o.op = .next x true)
    (hc : copO P esc o = some ao) (hr : aop ev loc mem callv o.dst ao = some (v, u, m')) : OpOK P base LC g lb own loc w a o v u m' := by
  simp only [copO, hop, Option.map_eq_some_iff] at hc
  obtain ⟨x', hx, rfl⟩ := hc
  simp only [aop] at hr
  split at hr
  · rename_i d ver e1
    split at hr
    · rename_i v' s pos hd
      split at hr
      · rename_i hv
        subst hv
        have k1 := hev _ _ hx
        rw [e1] at k1
        obtain ⟨xv, hxe⟩ : ∃ xv, a.eval x = xv := ⟨_, rfl⟩
        rw [hxe] at k1
        cases k1 with
        | lptr _ _ _ _ b hb =>
          obtain ⟨b', hb', hob, him, bs, hbs, hs⟩ := hl.iter d _ s pos hd
          rw [hb] at hb'; cases hb'
          have hlen := str_len hs
          split at hr
          · rename_i hpos
            simp only [Option.some.injEq, Prod.mk.injEq, bytes_of hs] at hr
            obtain ⟨rfl, rfl, rfl⟩ := hr
            have hother : ∀ b', b' ≠ b → (setObjW w b (.stringIter bs (pos + (Utf8.decode bs pos).2))).heap[b']? = w.heap[b']? := fun b' hne => by
              simp only [setObjW]; rw [Array.getElem?_setIfInBounds_ne (Ne.symm hne)]
            refine ⟨.tuple #[.bool true, .int .i64 pos, .int .i32 (Utf8.decode bs pos).1], setObjW w b (.stringIter bs (pos + (Utf8.decode bs pos).2)), .inl ?_, g, lb, own,
              ⟨g.sub_refl, by simp [setObjW], rfl, rfl, rfl, fun b' _ ho => hother b' (by rintro rfl; rw [hob] at ho; cases ho), fun _ _ h => h, fun _ _ _ _ => rfl⟩, fun _ _ _ h => h, ?_, ?_, ?_, ?_⟩
            · simp only [execOp, hop, hxe, Instr.next, Sem.run_bind, run_getObj_iter hbs, Result.andThen_ok]
              rw [if_pos (by rw [hlen]; exact hpos)]
              simp only [Sem.run_bind, run_setObj_iter hbs, Result.andThen_ok, Sem.run_pure]; rfl
            · refine .tup _ _ _ rfl fun i hi hi' => ?_
              match i, hi with
              | 0, _ => exact .bool _ _
              | 1, _ => exact .int _ _ _
              | 2, _ => exact .int _ _ _
            · refine hm.keep g.sub_refl (fun _ h => h) (fun _ _ h => h) (fun id b' hb' => ⟨rfl, hother b' ?_, fun _ => rfl⟩) (fun b' o y hy => ?_)
              · rintro rfl; rw [hob] at hb'; cases hb'
              · have hne : b' ≠ b := by rintro rfl; rw [him] at hy; cases hy
                rw [cell?_of_heap (hother b' hne)]; exact hm.im _ _ _ hy
            · have hat : (setObjW w b (.stringIter bs (pos + (Utf8.decode bs pos).2))).heap[b]? = some (.stringIter bs (pos + (Utf8.decode bs pos).2)) := setObjW_at hbs _
              refine ⟨fun d' i l' hd' => ?_, fun d' i s' pos' hd' => ?_, fun d' i b' hb' => ?_⟩
              · simp only [updF] at hd'
                split at hd'
                · cases hd'
                · rename_i hdd
                  obtain ⟨b2, q1, q2⟩ := hl.cells d' i l' hd'
                  have hne : b2 ≠ b := by rintro rfl; have := q2.1; rw [hob] at this; cases this; exact hdd rfl
                  exact ⟨b2, q1, q2.keep g.sub_refl (fun _ _ _ h => h) rfl (hother b2 hne) fun _ => rfl⟩
              · simp only [updF] at hd'
                split at hd'
                · rename_i hdd; subst hdd; cases hd'
                  exact ⟨b, hb, hob, him, bs, hat, hs⟩
                · rename_i hdd
                  obtain ⟨b2, q1, q2, q3, bs2, q4, q5⟩ := hl.iter d' i s' pos' hd'
                  have hne : b2 ≠ b := by rintro rfl; rw [hob] at q2; cases q2; exact hdd rfl
                  exact ⟨b2, q1, q2, q3, bs2, (hother b2 hne).trans q4, q5⟩
              · obtain ⟨v2, blk2, q1, q2⟩ := hl.ver d' i b' hb'
                by_cases hdd : d = d'
                · subst hdd
                  rw [hd] at q1; cases q1
                  exact ⟨_, .iter s (pos + (Utf8.decode bs pos).2), by simp [updF], q2⟩
                · exact ⟨v2, blk2, by simp [updF, hdd, q1], q2⟩
            · exact ⟨fun b' o hb' => by simpa [setObjW] using ho.ge b' o hb', by simpa [setObjW] using ho.base⟩
          · rename_i hpos
            simp only [Option.some.injEq, Prod.mk.injEq] at hr
            obtain ⟨rfl, rfl, rfl⟩ := hr
            refine .pure hm hl ho (x := .tuple #[.bool false]) ?_ (.tup _ _ _ rfl fun i hi hi' => by
              match i, hi with
              | 0, _ => exact .bool _ _)
            simp only [execOp, hop, hxe, Instr.next, Sem.run_bind, run_getObj_iter hbs, Result.andThen_ok]
            rw [if_neg (by rw [hlen]; exact hpos)]
            rfl
      · cases hr
    · cases hr
  · cases hr

end
end Go.Abs
