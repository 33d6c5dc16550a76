/- The executor's library functions at this seat: each answers as the program does. -/
import Derived.Test.YtiigojkfojnedaaGreatDoorXZg
import Derived.Test.YtiigojkfojnedaaGreatDoorXZw
import Derived.Test.YtiigojkfojnedaaGreatDoorXZs
import Derived.Test.YtiigojkfojnedaaGreatDoorXZka
import Derived.Test.YtiigojkfojnedaaGreatDoorXZkb
import Derived.Test.YtiigojkfojnedaaGreatDoorXZkc
import Derived.Test.YtiigojkfojnedaaGreatDoorXLa
import Derived.Test.YtiigojkfojnedaaGreatDoorXKx
import Derived.Test.YtiigojkfojnedaaGreatDoorXLb
set_option linter.unusedVariables false
set_option linter.unusedSimpArgs false
set_option maxRecDepth 100000
namespace Go.Abs.Tz
open Go.Abs Go.Proofs
open Go.RowKit (Below)

section
variable {base : Nat} {LC : LCR}

theorem p109 {gl : Nat → AV} : PrimOK Fence.wide Tryz.prog base LC gl 109 pItoa :=
  ok_itoa Tryz.func109 (by rfl) (by kernel_rfl) fun i hi w => Tryz.strconv_Itoa_small i hi w
theorem p238 {gl : Nat → AV} : PrimOK Fence.wide Tryz.prog base LC gl 238 pIdx :=
  ok_idx Tryz.func238 (by rfl) (by kernel_rfl) fun s c w => Tryz.strings_IndexByte s c w
theorem p174 {gl : Nat → AV} : PrimOK Fence.wide Tryz.prog base LC gl 174 pJoin :=
  ok_join Tryz.func174 (by rfl) (by kernel_rfl) fun bk o c xs sep w h1 h2 h3 h4 h5 => Tryz.strings_Join bk o c xs sep w h1 h2 h3 h4 h5
theorem p277 {gl : Nat → AV} : PrimOK Fence.wide Tryz.prog base LC gl 277 pClone :=
  ok_clone Tryz.func277 (by rfl) (by kernel_rfl) fun b es clock w h => mapsClone b es clock w h
theorem p106 {gl : Nat → AV} : PrimOK Fence.wide Tryz.prog base LC gl 106 (pWS 150 5) :=
  ok_ws Tryz.func106 (by rfl) (by kernel_rfl) fun b s p v r q w h1 h2 h3 h4 h5 => writeString b s p v r q w h1 h2 h3 h4 h5

theorem freeze_other (w : World) (g n k : Nat) (h : k ≠ g) : (w.freeze ⟨g, 0, none⟩ n).heap[k]? = w.heap[k]? := by
  unfold World.freeze
  split
  · rfl
  · simp only [Array.getElem?_modify]
    rw [if_neg (fun e => h e.symm)]
theorem freeze_same (w : World) (g n : Nat) : (w.freeze ⟨g, 0, none⟩ n).heap.size = w.heap.size ∧ (w.freeze ⟨g, 0, none⟩ n).os = w.os ∧ (w.freeze ⟨g, 0, none⟩ n).tape = w.tape ∧ (w.freeze ⟨g, 0, none⟩ n).output = w.output := by
  unfold World.freeze
  split
  · exact ⟨rfl, rfl, rfl, rfl⟩
  · exact ⟨by simp, rfl, rfl, rfl⟩

theorem p111 {gl : Nat → AV} : PrimOK Fence.wide Tryz.prog base LC gl 111 (pStr 150 5) := by
  refine ok_str Tryz.func111 (by rfl) (by kernel_rfl) fun b p v r q w hb hrow hrb hq => ?_
  rcases hrow with ⟨rfl, rfl, rfl⟩ | ⟨g, cap, cur, rfl, rfl, hne, hg, hcs, hlc, hcm, hat⟩
  · refine (bString_nil b p w hb).mono fun e w' he => ?_
    obtain ⟨rfl, rfl⟩ := he
    exact ⟨_, rfl, rfl, Nat.le_refl _, rfl, rfl, rfl, fun _ _ _ => rfl⟩
  · have hql : ((q.map UInt8.ofNat).map UInt8.toNat) = q := by
      have h1 : q.map (UInt8.toNat ∘ UInt8.ofNat) = q.map id := List.map_congr_left fun x hx => by
        have := hq x hx
        simp only [Function.comp, id, UInt8.toNat_ofNat']
        omega
      rw [List.map_map, h1, List.map_id]
    have hl : (q.map UInt8.ofNat).length = q.length := by simp
    refine (bString_some b g cap p cur (q.map UInt8.ofNat) w (by simpa using hne) (by rw [hl]; exact hb) hg hcs (by rw [hl]; exact hlc) hcm (fun j x hx => ?_)).mono fun e w' he => ?_
    · have hj : j < q.length := by have := (List.getElem?_eq_some_iff.1 hx).1; simpa using this
      have hx' : x = UInt8.ofNat q[j] := by
        rw [List.getElem?_map, List.getElem?_eq_getElem hj] at hx
        simpa using hx.symm
      have := hq q[j] (List.getElem_mem hj)
      rw [hat j hj, hx', UInt8.toNat_ofNat']
      congr 3
      omega
    · obtain ⟨rfl, rfl⟩ := he
      obtain ⟨k1, k2, k3, k4⟩ := freeze_same w.drew g (q.map UInt8.ofNat).length
      refine ⟨_, rfl, by simpa using hql, by rw [k1]; exact Nat.le_refl _, k2, k3, k4, fun k hk hr => ?_⟩
      rw [freeze_other _ _ _ _ (fun e => hr (by rw [e]))]
      rfl

theorem p269 {u : Nat} : PrimOK Fence.wide Tryz.prog base LC (gl u) 269 (pAtoi 350) := by
  refine ok_atoi 350 Tryz.func269 (by rfl) (by kernel_rfl) (fun s n hs hn w => (Tryz.strconv_Atoi s n hs hn w).mono fun e w' he => ?_) (fun w g hgl him => ?_)
  · obtain ⟨rfl, t, rfl⟩ := he
    exact ⟨rfl, Lib.bytesWorld_below _ _ _⟩
  · have h8 : VR g noLB (.ref [.iface u .junk]) (.pointer (some ⟨8, 0, none⟩)) := hgl 8
    obtain ⟨x, hx⟩ : ∃ x, w.cell? ⟨8, 0, none⟩ = some (.iface u x) := by
      cases h8 with
      | ref _ _ _ _ xs hi hv =>
        have h0 := hv 0 (by simp)
        have h1 := (hi 0 (by simp)).1
        simp only [List.getElem_cons_zero] at h0
        cases hx : xs 0 <;> rw [hx] at h0 <;> (try (cases h0; done))
        cases h0
        rw [hx] at h1
        exact ⟨_, him _ _ _ h1⟩
    refine (Tryz.strconv_Atoi_err .empty (by decide) (by decide) _ w hx (.inr ⟨_, _, rfl⟩)).mono fun e w' he => ?_
    obtain ⟨N, rfl, _, _, hB⟩ := he
    exact ⟨N, rfl, hB⟩

end
end Go.Abs.Tz

/- The executor's configuration at this seat is the program's. -/
set_option maxRecDepth 100000
namespace Go.Abs.Tz
open Go.Abs Go.Proofs

theorem ce {α : Type} {b : Bool} {x y : Option α} {Q : α → Prop} (hx : ∀ g, x = some g → Q g) (hy : ∀ g, y = some g → Q g) : ∀ g, cond b x y = some g → Q g := by
  cases b with
  | true => exact hx
  | false => exact hy
theorem cl {n k : Nat} {gk : AF} {P : Program} (h : FnOK P k gk) : ∀ g, cond (Nat.beq n k) (some gk) none = some g → FnOK P n g := by
  intro g hg
  cases hb : Nat.beq n k with
  | true =>
    rw [hb] at hg
    cases hg
    rw [Nat.eq_of_beq_eq_true hb]
    exact h
  | false => rw [hb] at hg; cases hg

theorem fs_ok (n : Nat) : ∀ g, fs n = some g → FnOK Tryz.prog n g :=
  ce (ce (ce (ce (ce (ce (cl k4) (ce (cl k18) (cl k19))) (ce (cl k21) (ce (cl k25) (cl k26)))) (ce (ce (cl k28) (ce (cl k29) (cl k30))) (ce (ce (cl k31) (cl k32)) (ce (cl k33) (cl k34))))) (ce (ce (ce (cl k39) (ce (cl k43) (cl k56))) (ce (ce (cl k65) (cl k66)) (ce (cl k70) (cl k72)))) (ce (ce (cl k85) (ce (cl k96) (cl k99))) (ce (ce (cl k105) (cl k107)) (ce (cl k108) (cl k110)))))) (ce (ce (ce (ce (cl k112) (ce (cl k113) (cl k114))) (ce (cl k115) (ce (cl k116) (cl k117)))) (ce (ce (cl k118) (ce (cl k124) (cl k126))) (ce (ce (cl k130) (cl k134)) (ce (cl k135) (cl k136))))) (ce (ce (ce (cl k137) (ce (cl k171) (cl k172))) (ce (ce (cl k175) (cl k176)) (ce (cl k177) (cl k178)))) (ce (ce (cl k179) (ce (cl k180) (cl k181))) (ce (ce (cl k187) (cl k188)) (ce (cl k189) (cl k190))))))) (ce (ce (ce (ce (ce (cl k191) (ce (cl k192) (cl k193))) (ce (cl k201) (ce (cl k202) (cl k203)))) (ce (ce (cl k204) (ce (cl k205) (cl k206))) (ce (ce (cl k207) (cl k208)) (ce (cl k209) (cl k223))))) (ce (ce (ce (cl k225) (ce (cl k226) (cl k227))) (ce (ce (cl k228) (cl k229)) (ce (cl k230) (cl k231)))) (ce (ce (cl k232) (ce (cl k233) (cl k239))) (ce (ce (cl k240) (cl k241)) (ce (cl k242) (cl k243)))))) (ce (ce (ce (ce (cl k244) (ce (cl k245) (cl k246))) (ce (ce (cl k247) (cl k248)) (ce (cl k265) (cl k266)))) (ce (ce (cl k267) (ce (cl k268) (cl k270))) (ce (ce (cl k271) (cl k272)) (ce (cl k273) (cl k274))))) (ce (ce (ce (cl k275) (ce (cl k276) (cl k282))) (ce (ce (cl k283) (cl k291)) (ce (cl k294) (cl k295)))) (ce (ce (cl k296) (ce (cl k297) (cl k298))) (ce (ce (cl k308) (cl k309)) (ce (cl k310) (cl k315)))))))

/-- What is asked of a library function. -/
structure PQ (base : Nat) (gl : Nat → AV) (f : Nat) (p : Prim) : Prop where
  ok : PrimOK Fence.wide Tryz.prog base (LCof Tryz.prog) gl f p
  km : ∀ args m r m', p args m = some (r, m') → KM m m'
  fn : ∃ fn, Tryz.prog.funcs[f]? = some fn ∧ fn.body.isNone = false ∧ (fn.name == "runtime.NumGoroutine") = false

theorem pl {base : Nat} {gl : Nat → AV} {n k : Nat} {pk : Prim} {y : Option Prim} (h : PQ base gl k pk) (hy : ∀ p, y = some p → PQ base gl n p) : ∀ p, cond (Nat.beq n k) (some pk) y = some p → PQ base gl n p := by
  intro p hp
  cases hb : Nat.beq n k with
  | true =>
    rw [hb] at hp
    cases hp
    rw [Nat.eq_of_beq_eq_true hb]
    exact h
  | false => rw [hb] at hp; exact hy p hp

theorem sameK {p : Prim} (h : ∀ args m r m', p args m = some (r, m') → m' = m) : ∀ args m r m', p args m = some (r, m') → KM m m' := fun args m r m' hr => by
  rw [h args m r m' hr]; exact KM.refl m

theorem pItoa_m : ∀ args m r m', pItoa args m = some (r, m') → m' = m := by
  intro args m r m' h
  unfold pItoa at h
  (repeat' split at h) <;> first | (cases h; done) | (simp only [Option.some.injEq, Prod.mk.injEq] at h; exact h.2.symm)
theorem pAtoi_m (te : TypeId) : ∀ args m r m', pAtoi te args m = some (r, m') → m' = m := by
  intro args m r m' h
  unfold pAtoi at h
  (repeat' split at h) <;> first
    | (cases h; done)
    | (simp only [Option.some.injEq, Prod.mk.injEq] at h; exact h.2.symm)
    | (simp only [Option.map_eq_some_iff, Prod.mk.injEq] at h; obtain ⟨_, _, _, h⟩ := h; exact h.symm)
theorem pJoin_m : ∀ args m r m', pJoin args m = some (r, m') → m' = m := by
  intro args m r m' h
  unfold pJoin at h
  (repeat' split at h) <;> first | (cases h; done) | (simp only [Option.some.injEq, Prod.mk.injEq] at h; exact h.2.symm)
theorem pIdx_m : ∀ args m r m', pIdx args m = some (r, m') → m' = m := by
  intro args m r m' h
  unfold pIdx at h
  split at h
  · split at h
    · simp only [Option.some.injEq, Prod.mk.injEq] at h; exact h.2.symm
    · cases h
  · cases h
theorem pConst_m (v : AV) : ∀ args m r m', pConst v args m = some (r, m') → m' = m := by
  intro args m r m' h
  unfold pConst at h
  (repeat' split at h) <;> first | (cases h; done) | (simp only [Option.some.injEq, Prod.mk.injEq] at h; exact h.2.symm)

theorem prim0_ok {base u : Nat} (n : Nat) : ∀ p, prim0 n = some p → PQ base (gl u) n p :=
  pl ⟨p109, sameK pItoa_m, _, Tryz.func109, by rfl, by kernel_rfl⟩ (pl ⟨p269, sameK (pAtoi_m 350), _, Tryz.func269, by rfl, by kernel_rfl⟩ (pl ⟨p106, pWS_K 150 5, _, Tryz.func106, by rfl, by kernel_rfl⟩
    (pl ⟨p111, pStr_K 150 5, _, Tryz.func111, by rfl, by kernel_rfl⟩ (pl ⟨p174, sameK pJoin_m, _, Tryz.func174, by rfl, by kernel_rfl⟩ (pl ⟨p238, sameK pIdx_m, _, Tryz.func238, by rfl, by kernel_rfl⟩
      (pl ⟨p277, pClone_K, _, Tryz.func277, by rfl, by kernel_rfl⟩ (fun p hp => by cases hp)))))))

theorem C0_ok (base u : Nat) : CfgOK Fence.wide Tryz.prog base (C0 u) := {
  fs f g h := fs_ok f g h
  prim f p h := (prim0_ok (base := base) (u := u) f p h).ok
  primK f p h := (prim0_ok (base := base) (u := u) f p h).km
  primE f p h := .inl (prim0_ok (base := base) (u := u) f p h).fn }


theorem C0_call (base u k : Nat) : CallOK Fence.wide Tryz.prog base (LCof Tryz.prog) (gl u) (cv (C0 u) k) := cv_sound (fun _ => trivial) rfl rfl (C0_ok base u) k

theorem t240 (u : Nat) (mem : Mem) : cv (C0 u) 70 (.fn (.func 240) [] []) [] mem = some (tb240, mem) := by
  have h : cvK (C0 u) 70 (.fn (.func 240) [] []) [] mem = some (tb240, mem.back ((⟨mem.blks, []⟩ : Mem).back ⟨mem.blks, []⟩)) := by kernel_rfl
  rw [show (⟨mem.blks, []⟩ : Mem).back ⟨mem.blks, []⟩ = ⟨mem.blks, []⟩ from back_same _, back_same] at h
  exact cvK_spec (C0 u) 70 _ _ _ _ h
theorem t241 (u : Nat) (mem : Mem) : cv (C0 u) 70 (.fn (.func 241) [] []) [] mem = some (tb241, mem) := by
  have h : cvK (C0 u) 70 (.fn (.func 241) [] []) [] mem = some (tb241, mem.back ((⟨mem.blks, []⟩ : Mem).back ⟨mem.blks, []⟩)) := by kernel_rfl
  rw [show (⟨mem.blks, []⟩ : Mem).back ⟨mem.blks, []⟩ = ⟨mem.blks, []⟩ from back_same _, back_same] at h
  exact cvK_spec (C0 u) 70 _ _ _ _ h
theorem t244 (u : Nat) (mem : Mem) : cv (C0 u) 70 (.fn (.func 244) [] []) [] mem = some (tb244, mem) := by
  have h : cvK (C0 u) 70 (.fn (.func 244) [] []) [] mem = some (tb244, mem.back ((⟨mem.blks, []⟩ : Mem).back ⟨mem.blks, []⟩)) := by kernel_rfl
  rw [show (⟨mem.blks, []⟩ : Mem).back ⟨mem.blks, []⟩ = ⟨mem.blks, []⟩ from back_same _, back_same] at h
  exact cvK_spec (C0 u) 70 _ _ _ _ h

theorem prim_ok {base u : Nat} (n : Nat) : ∀ p, prim n = some p → PQ base (gl u) n p :=
  pl ⟨ok_const (C0_call base u 70) (t240 u), sameK (pConst_m tb240), _, Tryz.func240, by rfl, by kernel_rfl⟩ (pl ⟨ok_const (C0_call base u 70) (t241 u), sameK (pConst_m tb241), _, Tryz.func241, by rfl, by kernel_rfl⟩
    (pl ⟨ok_const (C0_call base u 70) (t244 u), sameK (pConst_m tb244), _, Tryz.func244, by rfl, by kernel_rfl⟩ (prim0_ok n)))

theorem C_ok (base u : Nat) : CfgOK Fence.wide Tryz.prog base (C u) := {
  fs f g h := fs_ok f g h
  prim f p h := (prim_ok (base := base) (u := u) f p h).ok
  primK f p h := (prim_ok (base := base) (u := u) f p h).km
  primE f p h := .inl (prim_ok (base := base) (u := u) f p h).fn }


/-- **Every call that the executor answers, the program answers so.** -/
theorem C_call (base u k : Nat) : CallOK Fence.wide Tryz.prog base (LCof Tryz.prog) (gl u) (cv (C u) k) := cv_sound (fun _ => trivial) rfl rfl (C_ok base u) k

end Go.Abs.Tz
