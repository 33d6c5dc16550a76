/- A text of this proof. -/
import Derived.Test.YtiigojkfojnedaaGreatDoorPHe
import Derived.Test.YtiigojkfojnedaaGreatDoorPHj
set_option linter.unusedVariables false
set_option linter.unusedSimpArgs false
set_option maxRecDepth 100000
set_option maxHeartbeats 8000000
namespace Go.Abs.Tz
open Go.Abs
variable {u : Nat}
attribute [local simp] exec aops astep wantedA aop evO setO setU getE getE_setE lget lget_lset aBin aInt aUn AV.cells newVar padd rd wr asElem single splice aStr adraw ascan Runs gets RV.get tupled frz_int frz_bool
def entAV (x : Nme) : AV × AV := (.str x.name,.agg [.int .i64 x.w,.int .i64 x.d])
def putN : List Nme -> List Nat -> Int -> Int -> List Nme
 | [],s,w,d => [⟨s,w,d⟩]
 | x :: l,s,w,d => if x.name = s then ⟨s,w,d⟩ :: l else x :: putN l s w d
def delN : List Nme -> List Nat -> List Nme
 | [],_ => []
 | x :: l,s => if x.name = s then l else x :: delN l s
theorem lk_cases (es : List Nme) (s : List Nat) : (mfind (.str s) (es.map entAV) = some none /\ findN es s = ⟨[],0,0⟩ /\ ¬ ∃ y ∈ es,y.name = s) \/ ∃ w d,mfind (.str s) (es.map entAV) = some (some (.agg [.int .i64 w,.int .i64 d])) /\ findN es s = ⟨s,w,d⟩ /\ ⟨s,w,d⟩ ∈ es := by
 induction es with
 | nil => exact .inl ⟨rfl,rfl,by simp⟩
 | cons a l ih =>
  obtain ⟨nn,w,d⟩ := a
  by_cases h : nn = s
  ·subst h
   exact .inr ⟨w,d,by simp [mfind,entAV,keyEq],by simp [findN],by simp⟩
  ·have hne : ¬ s = nn := Ne.symm h
   rcases ih with ⟨h1,h2,h3⟩ | ⟨w',d',h1,h2,h3⟩
   ·exact .inl ⟨by simpa [mfind,entAV,keyEq,hne] using h1,by simp [findN,h,h2],by simpa [h] using h3⟩
   ·exact .inr ⟨w',d',by simpa [mfind,entAV,keyEq,hne] using h1,by simp [findN,h,h2],by simp [h3]⟩
theorem mset_ents (es : List Nme) (s : List Nat) (w d : Int) : mset (.str s) (.agg [.int .i64 w,.int .i64 d]) (es.map entAV) = some ((putN es s w d).map entAV) := by
 induction es with
 | nil => rfl
 | cons a l ih =>
  by_cases h : a.name = s
  ·have h' : s = a.name := h.symm
   simp [mset,entAV,keyEq,putN,h]
  ·have hne : ¬ s = a.name := Ne.symm h
   simp only [List.map_cons,mset,entAV,keyEq,hne,decide_false,putN,h,if_false] at ih ⊢
   rw [ih]
   rfl
theorem mdel_ents (es : List Nme) (s : List Nat) : mdel (.str s) (es.map entAV) = some ((delN es s).map entAV) := by
 induction es with
 | nil => rfl
 | cons a l ih =>
  by_cases h : a.name = s
  ·simp [mdel,entAV,keyEq,delN,h]
  ·have hne : ¬ s = a.name := Ne.symm h
   have ih' : mdel (.str s) (l.map entAV) = some ((delN l s).map entAV) := ih
   simp only [List.map_cons,mdel,keyEq,entAV,hne,decide_false,delN,h,if_false]
   have e : (l.map fun x => (AV.str x.name,AV.agg [.int .i64 x.w,.int .i64 x.d])) = l.map entAV := rfl
   first | rw [ih'] | (rw [e,ih'])
   rfl
theorem findN_put (es : List Nme) (s : List Nat) (w d : Int) (t : List Nat) : findN (putN es s w d) t = if t = s then ⟨s,w,d⟩ else findN es t := by
 induction es with
 | nil =>
  by_cases h : t = s
  ·subst h; simp [putN,findN]
  ·simp [putN,findN,h,Ne.symm h]
 | cons a l ih =>
  by_cases h : a.name = s
  ·by_cases h2 : t = s
   ·subst h2; simp [putN,findN,h]
   ·have : ¬ a.name = t := fun he => h2 (he.symm.trans h)
    simp [putN,findN,h,h2,Ne.symm h2,this]
  ·by_cases h2 : t = s
   ·subst h2; simp [putN,findN,h,ih]
   ·simp only [putN,h,if_false,findN,ih,h2]
theorem put_mem {es : List Nme} {s : List Nat} {w d : Int} {x : Nme} (h : x ∈ putN es s w d) : x = ⟨s,w,d⟩ \/ x ∈ es := by
 induction es with
 | nil => simp [putN] at h; exact .inl h
 | cons a l ih =>
  simp only [putN] at h
  split at h
  ·rcases List.mem_cons.1 h with h | h
   ·exact .inl h
   ·exact .inr (by simp [h])
  ·rcases List.mem_cons.1 h with h | h
   ·exact .inr (by simp [h])
   ·rcases ih h with h | h
    ·exact .inl h
    ·exact .inr (by simp [h])
theorem del_mem {es : List Nme} {s : List Nat} {x : Nme} (h : x ∈ delN es s) : x ∈ es := by
 induction es with
 | nil => cases h
 | cons a l ih =>
  simp only [delN] at h
  split at h
  ·simp [h]
  ·rcases List.mem_cons.1 h with h | h
   ·simp [h]
   ·simp [ih h]
theorem put_nd {es : List Nme} {s : List Nat} {w d : Int} (h : (es.map Nme.name).Nodup) : ((putN es s w d).map Nme.name).Nodup := by
 induction es with
 | nil => simp [putN]
 | cons a l ih =>
  rw [List.map_cons,List.nodup_cons] at h
  simp only [putN]
  split
  ·rename_i he
   rw [List.map_cons,List.nodup_cons]
   exact ⟨by rw [<- he]; exact h.1,h.2⟩
  ·rename_i hne
   rw [List.map_cons,List.nodup_cons]
   refine ⟨fun hm => ?_,ih h.2⟩
   obtain ⟨x,hx,he⟩ := List.mem_map.1 hm
   rcases put_mem hx with rfl | hx
   ·exact hne he.symm
   ·exact h.1 (List.mem_map.2 ⟨x,hx,he⟩)
theorem del_nd {es : List Nme} {s : List Nat} (h : (es.map Nme.name).Nodup) : ((delN es s).map Nme.name).Nodup := by
 induction es with
 | nil => simp [delN]
 | cons a l ih =>
  rw [List.map_cons,List.nodup_cons] at h
  simp only [delN]
  split
  ·exact h.2
  ·rw [List.map_cons,List.nodup_cons]
   refine ⟨fun hm => ?_,ih h.2⟩
   obtain ⟨x,hx,he⟩ := List.mem_map.1 hm
   exact h.1 (List.mem_map.2 ⟨x,del_mem hx,he⟩)
theorem findN_del {es : List Nme} (s : List Nat) (h : (es.map Nme.name).Nodup) (t : List Nat) : findN (delN es s) t = if t = s then ⟨[],0,0⟩ else findN es t := by
 induction es with
 | nil => simp [delN,findN]
 | cons a l ih =>
  rw [List.map_cons,List.nodup_cons] at h
  simp only [delN]
  by_cases he : a.name = s
  ·simp only [he,if_true]
   by_cases h2 : t = s
   ·subst h2
    simp only [if_true]
    refine findN_none ?_
    rintro ⟨y,hy,hye⟩
    exact h.1 (List.mem_map.2 ⟨y,hy,hye.trans he.symm⟩)
   ·simp only [h2,if_false,findN,he,Ne.symm h2]
  ·simp only [he,if_false,findN,ih h.2]
   by_cases h2 : t = s
   ·subst h2; simp [he]
   ·simp [h2]
def lookL (n : Nme) (b : Int) : What := if n.w = 1 then .reg (decide (n.d = b)) else if n.w = 2 then .bit else if n.w = 3 then .turn else .none
structure LScope (es : List Nme) (b nb : Int) (L : Look) : Prop where
 look : ∀ s,L s = lookL (findN es s) b
 ws : ∀ x ∈ es,1 <= x.w /\ x.w <= 3
 ds : ∀ x ∈ es,x.d < nb
 nd : (es.map Nme.name).Nodup
theorem LScope.empty (b nb : Int) : LScope [] b nb noL := ⟨fun _ => rfl,fun _ h => (by cases h),fun _ h => (by cases h),by simp⟩
theorem LScope.mono {es : List Nme} {b nb nb' : Int} {L : Look} (h : LScope es b nb L) (hb : nb <= nb') : LScope es b nb' L := ⟨h.look,h.ws,fun x hx => by have := h.ds x hx; omega,h.nd⟩
theorem LScope.put {es : List Nme} {b nb : Int} {L : Look} (h : LScope es b nb L) (s : List Nat) (w d : Int) (hw : 1 <= w /\ w <= 3) (hd : d < nb) : LScope (putN es s w d) b nb (L.put s (lookL ⟨s,w,d⟩ b)) := by
 refine ⟨fun t => ?_,fun x hx => ?_,fun x hx => ?_,put_nd h.nd⟩
 ·rw [findN_put]
  simp only [Look.put]
  by_cases ht : t = s
  ·simp [ht]
  ·simp [ht,h.look t]
 ·rcases put_mem hx with rfl | hx
  ·exact hw
  ·exact h.ws x hx
 ·rcases put_mem hx with rfl | hx
  ·exact hd
  ·exact h.ds x hx
theorem LScope.del {es : List Nme} {b nb : Int} {L : Look} (h : LScope es b nb L) (s : List Nat) : LScope (delN es s) b nb (L.put s .none) := by
 refine ⟨fun t => ?_,fun x hx => h.ws x (del_mem hx),fun x hx => h.ds x (del_mem hx),del_nd h.nd⟩
 rw [findN_del s h.nd]
 simp only [Look.put]
 by_cases ht : t = s
 ·simp [ht,lookL]
 ·simp [ht,h.look t]
theorem LScope.inner {es : List Nme} {b nb : Int} {L : Look} (h : LScope es b nb L) : LScope es nb (nb + 1) L.inner := by
 refine ⟨fun t => ?_,h.ws,fun x hx => by have := h.ds x hx; omega,h.nd⟩
 simp only [Look.inner,h.look t]
 rcases findN_mem es t with h1 | ⟨h1,_⟩
 ·simp [h1,lookL]
 ·have hd := h.ds _ h1
  have hne : ¬ (findN es t).d = nb := by omega
  unfold lookL
  (repeat' split) <;> simp_all
theorem scL_cases {es : List Nme} {b nb : Int} {L : Look} (h : LScope es b nb L) (s : List Nat) :
  (mfind (.str s) (es.map entAV) = some none /\ L s = .none) \/ ∃ w d,mfind (.str s) (es.map entAV) = some (some (.agg [.int .i64 w,.int .i64 d])) /\ (w = 1 \/ w = 2 \/ w = 3) /\ L s = lookL ⟨s,w,d⟩ b := by
 have hl := h.look s
 rcases lk_cases es s with ⟨h1,h2,_⟩ | ⟨w,d,h1,h2,h3⟩
 ·rw [h2] at hl; exact .inl ⟨h1,hl⟩
 ·rw [h2] at hl
  have := h.ws _ h3
  dsimp only at this
  exact .inr ⟨w,d,h1,by omega,hl⟩
def scAV (id : Nat) (b : Int) : AV := .agg [.map id,.int .i64 b]
theorem f298 {B : List Blk} {id : Nat} {es : List Nme} {b nb : Int} {L : Look} (hid : B[id]? = some (.map (es.map entAV))) (hs : LScope es b nb L) (s : List Nat) : Ans u B (.fn (.func 298) [scAV id b] []) [.str s] (.bool (mayOf L s)) := by
 intro ext T
 have hlt : id < B.length := by
  rcases Nat.lt_or_ge id B.length with h | h
  ·exact h
  ·rw [List.getElem?_eq_none h] at hid; cases hid
 have hlt' : id < (B ++ ext).length := by simp; omega
 have hid' : (B ++ ext)[id]? = some (.map (es.map entAV)) := by rw [List.getElem?_append_left hlt]; exact hid
 refine clo_runs (g := g298) (by rfl) (by rfl) (by rfl) ?_
 simp only [scAV,List.cons_append,List.nil_append,List.append_nil,List.map_cons,List.map_nil,exp,exps,hlt',if_true,g298,c298]
 generalize B ++ ext = BB at *
 rcases scL_cases hs s with ⟨h1,h2⟩ | ⟨w,d,h1,hw,h2⟩
 ·simp [hid',isKey,h1,mayOf,h2]
 ·simp only [mayOf,h2]
  rcases hw with rfl | rfl | rfl <;> simp [hid',isKey,h1,lookL]
theorem f275 {B : List Blk} {id : Nat} {es : List Nme} {b nb : Int} {L : Look} (hid : B[id]? = some (.map (es.map entAV))) (hs : LScope es b nb L) (x : Idx) (hok : x.Ok) (hstr : x.Str) (hcnt : x.cnt < 1000000000000) (fst args : List AV) (hfa : fst ++ args = [scAV id b,x.av]) :
  Ans u B (.fn (.func 275) fst []) args (.int .i64 (x.err (mayOf L) 1)) := by
 intro ext T
 have hlt : id < B.length := by
  rcases Nat.lt_or_ge id B.length with h | h
  ·exact h
  ·rw [List.getElem?_eq_none h] at hid; cases hid
 have hlt' : id < (B ++ ext).length := by simp; omega
 have hfix : Fix B.length (.fn (.func 298) [scAV id b] []) := by
  intro k bb hk
  have : id < k := by omega
  simp [exp,exps,Fn.below,scAV,this]
 have h112 := f112 (u := u) (B := B) 1 hfix (by simp [scAV,nol,nols]) rfl (fun s _ => f298 hid hs s) x hok hstr hcnt ext []
 refine clo_runs (g := g275) (by rfl) (by rfl) (by rfl) ?_
 rw [hfa]
 simp only [List.append_nil,List.map_cons,List.map_nil,Idx.exp_av _ _ _ hok]
 simp only [scAV,exp,exps,hlt',if_true,g275,c275]
 simp only [scAV] at h112
 generalize B ++ ext = BB at *
 generalize x.err (mayOf L) 1 = xe at *
 obtain ⟨k,n,s,c,l⟩ := x
 simp only [Idx.av] at h112 ⊢
 simp [h112]
theorem f274 {B : List Blk} {id : Nat} {es : List Nme} {b nb : Int} {L : Look} (hid : B[id]? = some (.map (es.map entAV))) (hs : LScope es b nb L) (p : Plc) (hok : p.Ok) (hw : p.wt < 1000000000000) (fst args : List AV) (hfa : fst ++ args = [scAV id b,p.av]) :
  Ans u B (.fn (.func 274) fst []) args (.int .i64 (placeE L p)) := by
 intro ext T
 have hlt : id < B.length := by
  rcases Nat.lt_or_ge id B.length with h | h
  ·exact h
  ·rw [List.getElem?_eq_none h] at hid; cases hid
 have hlt' : id < (B ++ ext).length := by simp; omega
 have hid' : (B ++ ext)[id]? = some (.map (es.map entAV)) := by rw [List.getElem?_append_left hlt]; exact hid
 have hfix : Fix B.length (.fn (.func 275) [scAV id b] []) := by
  intro k bb hk
  have : id < k := by omega
  simp [exp,exps,Fn.below,scAV,this]
 have hge := plcs_ge p
 have hoks : Idx.Oks p.ix := by
  have : ∀ l : List Idx,(∀ x ∈ l,x.Ok2) -> Idx.Oks l := by
   intro l
   induction l with
   | nil => intro _; trivial
   | cons a l ih => exact fun h => ⟨(h a (by simp)).1,ih fun x hx => h x (by simp [hx])⟩
  exact this _ hok.2.2
 have h177 := f177 (u := u) (B := B) (F := Idx.err (mayOf L) 1) hfix p.c hok.2.1 p.ix hoks (by omega) (fun x hx => f275 hid hs x (hok.2.2 x hx).1 (hok.2.2 x hx).2 (by have := Idx.cnt_mem hx; simp only [Plc.wt] at hw; omega) [scAV id b] [x.av] rfl) ext []
 have hav : p.av = .agg [.str p.name,.list p.c (Idx.avs p.ix)] := by simp [Plc.av,Idx.avs_eq]
 refine clo_runs (g := g274) (by rfl) (by rfl) (by rfl) ?_
 rw [hfa]
 simp only [List.append_nil,List.map_cons,List.map_nil,Plc.exp_av _ _ _ hok]
 rw [hav]
 simp only [scAV,exp,exps,hlt',if_true,g274,c274]
 simp only [scAV] at h177
 generalize B ++ ext = BB at *
 unfold placeE
 generalize first (Idx.err (mayOf L) 1) p.ix = pe at *
 have hl2 : ∀ q : Prop,(2 : Int) < (p.ix.length : Int) ↔ 2 < p.ix.length := fun _ => by omega
 rcases scL_cases hs p.name with ⟨h1,h2⟩ | ⟨w,d,h1,hw',h2⟩
 ·simp [hid',isKey,h1,h2,What.isReg]
 ·rw [h2]
  rcases hw' with rfl | rfl | rfl
  ·by_cases hix : 2 < p.ix.length
   ·have : (2 : Int) < (p.ix.length : Int) := by omega
    simp [hid',isKey,h1,lookL,What.isReg,avs_len,hix,this]
   ·have : ¬ (2 : Int) < (p.ix.length : Int) := by omega
    simp [hid',isKey,h1,lookL,What.isReg,avs_len,hix,this,h177]
  ·simp [hid',isKey,h1,lookL,What.isReg]
  ·simp [hid',isKey,h1,lookL,What.isReg]
theorem f191 {B : List Blk} {id : Nat} {es : List Nme} {b nb : Int} {L : Look} (hid : B[id]? = some (.map (es.map entAV))) (hs : LScope es b nb L) (s : List Nat) (hstr : okStr s) : Ans u B (.fn (.func 191) [] []) [scAV id b,.str s] (.int .i64 (newE L s)) := by
 intro ext T
 have hlt : id < B.length := by
  rcases Nat.lt_or_ge id B.length with h | h
  ·exact h
  ·rw [List.getElem?_eq_none h] at hid; cases hid
 have hlt' : id < (B ++ ext).length := by simp; omega
 have hid' : (B ++ ext)[id]? = some (.map (es.map entAV)) := by rw [List.getElem?_append_left hlt]; exact hid
 have e113 := fun m => f113 (u := u) s hstr m
 refine call_runs (g := g191) (by rfl) (by rfl) (by rfl) ?_
 simp only [scAV,List.map_cons,List.map_nil,exp,exps,hlt',if_true,g191,c191]
 generalize B ++ ext = BB at *
 unfold newE
 cases hn : namedB s with
 | false => rw [hn] at e113; simp [e113]
 | true =>
  rw [hn] at e113
  rcases scL_cases hs s with ⟨h1,h2⟩ | ⟨w,d,h1,hw',h2⟩
  ·simp [hid',isKey,h1,h2,e113,fills,eqCells]
  ·rw [h2]
   rcases hw' with rfl | rfl | rfl <;> simp [hid',isKey,h1,e113,fills,eqCells,lookL]
theorem f273 {B : List Blk} {fv : AV} {F : Plc -> Int} (hf : Fix B.length fv) (c : Cap) (hc : okCap c) (l : List Plc) (hl : ∀ p ∈ l,p.Ok) (hlen : l.length < 1000000000000)
  (h : ∀ x ∈ l,Ans u B fv [x.av] (.int .i64 (F x))) : Ans u B (.fn (.func 273) [] []) [.list c (l.map Plc.av),fv] (.int .i64 (first F l)) := by
 intro ext T
 refine call_runs (g := g273) (by rfl) (by rfl) (by rfl) ?_
 simp only [List.map_cons,List.map_nil,plc_exp hc hl,hf _ false (show B.length <= (B ++ ext).length by simp),g273,c273]
 let K : St -> Prop := fun st => getE st.env 1 = fv /\ st.mem = { blks := B ++ ext,touched := [] }
 refine Runs.seq' (M := fun st => K st /\ getE st.env 0 = .list c (l.map Plc.av)) (by simp [K]) fun s1 ⟨⟨h1,h2⟩,h3⟩ => ?_
 refine Runs.seq (M := fun st => K st /\ first F l = 0) ?_ fun s2 ⟨⟨h1,h2⟩,h3⟩ => by simp [h1,h2,h3]
 let I : Nat -> St -> Prop := fun i st => K st /\ getE st.env 8 = .list c (l.map Plc.av) /\ getE st.env 9 = .int .i64 l.length /\ getE st.env 10 = .int .i64 i /\ ∀ j (hj : j < l.length),j < i -> F l[j] = 0
 refine Runs.seq' (M := I 0) (by simp [I,K,h1,h2,h3]) fun s4 hI => ?_
 refine Runs.block (Runs.loop (I := I) l.length hI fun i st hi hst => ?_)
 obtain ⟨⟨h1,h2⟩,q1,q2,q3,q4⟩ := hst
 rcases Nat.lt_or_ge i l.length with hlt | hge
 ·have hw : IntKind.wrap .i64 ((i : Int) + 1) = (i : Int) + 1 := wrap_i64 (by omega) (by omega)
  have hx := h _ (List.getElem_mem hlt) ext []
  simp only [Plc.av] at hx
  by_cases hz : F l[i] = 0
  ·left
   refine ⟨hlt,?_⟩
   rw [hz] at hx
   have q5 := before_succ (P := fun j => ∀ hj : j < l.length,F l[j] = 0) (n := l.length) (fun j a b c => q4 j c b) (fun _ => hz)
   simp [I,K,l273_0,h1,h2,q1,q2,q3,hlt,Plc.av,hx,hw]
   exact fun j hj hji => q5 j hj hji hj
  ·right
   have hfe := first_at hlt q4 hz
   rw [hfe]
   have e1 := bne_true hz
   simp [K,l273_0,h1,h2,q1,q2,q3,hlt,Plc.av,hx,e1]
 ·right
  have : i = l.length := by omega
  subst this
  have hz := first_all (f := F) fun j hj => q4 j hj hj
  simp [K,l273_0,h1,h2,q1,q2,q3,hz]
theorem f272 (g : Int) (hg : 1 <= g /\ g <= 12) (m : Mem) : cvl (C u) (.fn (.func 272) [] []) [.int .i64 g] m = some (.int .i64 (arityN g),m) := by
 refine call_runs (g := g272) (by rfl) (by rfl) (by rfl) ?_
 by_cases h1 : g = 12
 ·subst h1; simp [g272,c272,exp,arityN]
 by_cases h2 : 9 <= g
 ·have : ¬ g <= 8 := by omega
  have : g <= 11 := by omega
  simp [g272,c272,exp,arityN,ne_true h1, *]
 ·have : g <= 8 := by omega
  simp [g272,c272,exp,arityN,ne_true h1, *]
end Go.Abs.Tz
