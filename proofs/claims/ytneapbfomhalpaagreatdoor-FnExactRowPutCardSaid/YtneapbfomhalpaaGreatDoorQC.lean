/- The engine of this session, part 15: the steps of a walk. -/
import Derived.Test.YtneapbfomhalpaaGreatDoorQB
import Derived.Below
set_option linter.unusedVariables false
set_option linter.unusedSimpArgs false
namespace Go.Pv
variable {P : Program} {R : Nat → Prop} {mem : Mem} {st : St} {Q : St → Exit → Prop} {ops : Array Oper} {base i : Nat} {o : Oper} {rest : List Oper} {K : St → Prop}

/-- Behind a first part comes y. -/
def Seq (P : Program) (R : Nat → Prop) (y : Code) (Q : St → Exit → Prop) : St → Exit → Prop := fun s e => match e with | .normal => W P R y s Q | e => Q s e
theorem Seq.normal {y : Code} (h : W P R y st Q) : Seq P R y Q st .normal := h
theorem Seq.exit {y : Code} {id : Nat} (h : Q st (.exit id)) : Seq P R y Q st (.exit id) := h
theorem Seq.ret {y : Code} (h : Q st .ret) : Seq P R y Q st .ret := h
theorem W.seq {x y : Code} (h : W P R x st (Seq P R y Q)) : W P R (.seq x y) st Q := W_seq (W_mono h fun s e hs => by cases e <;> exact hs)
/-- Out of a block. -/
def Blk (id : Nat) (Q : St → Exit → Prop) : St → Exit → Prop := fun s e => match e with | .exit id' => if id' = id then Q s .normal else Q s (.exit id') | e => Q s e
theorem Blk.normal {id : Nat} (h : Q st .normal) : Blk id Q st .normal := h
theorem Blk.ret {id : Nat} (h : Q st .ret) : Blk id Q st .ret := h
theorem Blk.same {id : Nat} (h : Q st .normal) : Blk id Q st (.exit id) := by unfold Blk; simp; exact h
theorem Blk.other {id id' : Nat} (hn : id' ≠ id) (h : Q st (.exit id')) : Blk id Q st (.exit id') := by unfold Blk; simp [hn]; exact h
theorem W.block {id : Nat} {c : Code} (h : W P R c st (Blk id Q)) : W P R (.block id c) st Q := W_block (W_mono h fun s e hs => by cases e <;> exact hs)
/-- A round of a loop. -/
def Rnd (P : Program) (R : Nat → Prop) {α : Type} (Inv : α → St) (p : α → Prop) (μ : α → Nat) (x : α) (Q : St → Exit → Prop) : St → Exit → Prop := fun s e => match e with | .normal => ∃ y, p y ∧ μ y < μ x ∧ Weak P R s (Inv y) | e => Q s e
theorem Rnd.normal {α : Type} {Inv : α → St} {p : α → Prop} {μ : α → Nat} {x : α} (y : α) (h1 : p y) (h2 : μ y < μ x) (h3 : Weak P R st (Inv y)) : Rnd P R Inv p μ x Q st .normal := ⟨y, h1, h2, h3⟩
theorem Rnd.exit {α : Type} {Inv : α → St} {p : α → Prop} {μ : α → Nat} {x : α} {id : Nat} (h : Q st (.exit id)) : Rnd P R Inv p μ x Q st (.exit id) := h
theorem Rnd.ret {α : Type} {Inv : α → St} {p : α → Prop} {μ : α → Nat} {x : α} (h : Q st .ret) : Rnd P R Inv p μ x Q st .ret := h
theorem W.loop {α : Type} (Inv : α → St) (p : α → Prop) (μ : α → Nat) {c : Code} (x0 : α) (hw : Weak P R st (Inv x0)) (hp : p x0) (hb : ∀ x, p x → W P R c (Inv x) (Rnd P R Inv p μ x Q)) : W P R (.loop c) st Q :=
  W_loop Inv p μ x0 hw hp fun x hx => W_mono (hb x hx) fun s e hs => by cases e <;> exact hs
theorem W.region {id : Nat} {l : List Oper} (h : aops P (16384 * (id + 1)) l.toArray 0 l st fun s => Q s .normal) : W P R (.region id l.toArray false) st Q := W_region h
theorem W.draw {id n : Nat} {l : List Oper} (hf : P.follows .mixedOrders = true) (hB : drawB l.toArray n = true) (h : ahead P (16384 * (id + 1)) l.toArray st.mem 0 (l.take n) st.tmps fun ts => aops P (16384 * (id + 1)) l.toArray n (l.drop n) ⟨ts, st.mem⟩ fun s => Q s .normal) : W P R (.region id l.toArray true) st Q :=
  W_draw hf hB h
theorem aops_nil (h : K st) : aops P base ops i [] st K := h
theorem aops_cons (hg : o.guard = none) (h : ∀ K' : PV → Mem → Prop, (∀ x m, aops P base ops (i + 1) rest (put st o.dst x m) K → K' x m) → aop P (base + 16 * i) o st K') : aops P base ops i (o :: rest) st K := by
  unfold aops
  exact aGuard_true (by unfold gd; rw [hg]) (h _ fun _ _ h => h)
theorem aops_run (hg : gd ops o st.tmps = some true) (h : ∀ K' : PV → Mem → Prop, (∀ x m, aops P base ops (i + 1) rest (put st o.dst x m) K → K' x m) → aop P (base + 16 * i) o st K') : aops P base ops i (o :: rest) st K := by
  unfold aops
  exact aGuard_true hg (h _ fun _ _ h => h)
theorem aops_skip (hg : gd ops o st.tmps = some false) (h : aops P base ops (i + 1) rest (put st o.dst (.b undef) st.mem) K) : aops P base ops i (o :: rest) st K := by
  unfold aops
  exact aGuard_false hg h
theorem beqT {b : Bool} (h : (b == true) = true) : b = true := by cases b <;> simp_all
theorem beqTf {b : Bool} (h : (b == true) = false) : b = false := by cases b <;> simp_all
theorem beqF {b : Bool} (h : (b == false) = true) : b = false := by cases b <;> simp_all
theorem beqFf {b : Bool} (h : (b == false) = false) : b = true := by cases b <;> simp_all
theorem aops_cons_if {t : Bool} (hg : gd ops o st.tmps = some t) (h1 : t = true → ∀ K' : PV → Mem → Prop, (∀ x m, aops P base ops (i + 1) rest (put st o.dst x m) K → K' x m) → aop P (base + 16 * i) o st K') (h2 : t = false → aops P base ops (i + 1) rest (put st o.dst (.b undef) st.mem) K) : aops P base ops i (o :: rest) st K := by
  unfold aops aGuard
  rw [hg]
  exact ⟨fun e => h1 e _ fun _ _ h => h, h2⟩
theorem ahead_nil {m : Mem} {ts : List PV} {K : List PV → Prop} (h : K ts) : ahead P base ops m i [] ts K := h
theorem ahead_cons {m : Mem} {ts : List PV} {K : List PV → Prop} (hg : o.guard = none) (h : ∀ K' : PV → Mem → Prop, (∀ x, ahead P base ops m (i + 1) rest (putL ts o.dst x) K → K' x m) → aop P (base + 16 * i) o ⟨ts, m⟩ K') : ahead P base ops m i (o :: rest) ts K := by
  unfold ahead
  refine aGuard_true (by unfold gd; rw [hg]) ?_
  obtain ⟨p, h1, h2⟩ := aop_tells (P := P) (st := ⟨ts, m⟩) (o := o) (base + 16 * i) (fun p => p.2 = m ∧ ahead P base ops m (i + 1) rest (putL ts o.dst p.1) K) (h (fun x m' => m' = m ∧ ahead P base ops m (i + 1) rest (putL ts o.dst x) K) fun x hx => ⟨rfl, hx⟩)
  exact h2 (fun p => p.2 = m ∧ ahead P base ops m (i + 1) rest (putL ts o.dst p.1) K) h1
theorem ahead_cons_if {m : Mem} {ts : List PV} {K : List PV → Prop} {t : Bool} (hg : gd ops o ts = some t) (h1 : t = true → ∀ K' : PV → Mem → Prop, (∀ x, ahead P base ops m (i + 1) rest (putL ts o.dst x) K → K' x m) → aop P (base + 16 * i) o ⟨ts, m⟩ K') (h2 : t = false → ahead P base ops m (i + 1) rest (putL ts o.dst (.b undef)) K) : ahead P base ops m i (o :: rest) ts K := by
  unfold ahead aGuard
  rw [hg]
  exact ⟨fun e => h1 e (fun x m' => m' = m ∧ ahead P base ops m (i + 1) rest (putL ts o.dst x) K) fun x hx => ⟨rfl, hx⟩, h2⟩
theorem Ok.walk {f : FuncId} {fn : Func} {c : Code} {args : List PV} {r : PV} {rows : List (TypeId × List PV)} (hf : P.funcs[f]? = some fn) (hb : fn.body = some c)
    (h : W P (fun _ => False) c (startSt fn args noMem) (Ends P fn (Out P r rows))) : Ok P f args r rows := Ok.of_W hf hb h
theorem Ends.ret {fn : Func} {K : PV → Mem → Prop} (h : aRes P fn st fun x => K x st.mem) : Ends P fn K st .ret := ⟨trivial, h⟩
theorem Ends.normal {fn : Func} {K : PV → Mem → Prop} (h : aRes P fn st fun x => K x st.mem) : Ends P fn K st .normal := ⟨trivial, h⟩
theorem ahead_run {m : Mem} {ts : List PV} {K : List PV → Prop} (hg : gd ops o ts = some true) (h : ∀ K' : PV → Mem → Prop, (∀ x, ahead P base ops m (i + 1) rest (putL ts o.dst x) K → K' x m) → aop P (base + 16 * i) o ⟨ts, m⟩ K') : ahead P base ops m i (o :: rest) ts K := by
  unfold ahead
  refine aGuard_true hg ?_
  obtain ⟨p, h1, h2⟩ := aop_tells (P := P) (st := ⟨ts, m⟩) (o := o) (base + 16 * i) (fun p => p.2 = m ∧ ahead P base ops m (i + 1) rest (putL ts o.dst p.1) K) (h (fun x m' => m' = m ∧ ahead P base ops m (i + 1) rest (putL ts o.dst x) K) fun x hx => ⟨rfl, hx⟩)
  exact h2 (fun p => p.2 = m ∧ ahead P base ops m (i + 1) rest (putL ts o.dst p.1) K) h1
theorem ahead_skip {m : Mem} {ts : List PV} {K : List PV → Prop} (hg : gd ops o ts = some false) (h : ahead P base ops m (i + 1) rest (putL ts o.dst (.b undef)) K) : ahead P base ops m i (o :: rest) ts K := by
  unfold ahead
  exact aGuard_false hg h
theorem loadPV_one {n : Nat} {z : Option (List Value)} {x : PV} {xs : List PV} {K : PV → Prop} : loadPV ⟨false, 1, n, z⟩ (x :: xs) K = K x := by simp [loadPV]
theorem loadPV_agg {k n : Nat} {z : Option (List Value)} {xs : List PV} {K : PV → Prop} : loadPV ⟨true, k, n, z⟩ xs K = (k ≤ xs.length ∧ K (.agg (xs.take k))) := by simp [loadPV]
theorem load_map {α : Type} {f : α → PV} {l : List α} {k n : Nat} {z : Option (List Value)} {K : PV → Prop} (h : k < l.length) (hK : K (f l[k])) : loadPV ⟨false, 1, n, z⟩ ((l.map f).drop k) K := by
  rw [List.drop_eq_getElem_cons (by simpa using h), loadPV_one]
  simpa using hK
/-- A text; texts. -/
abbrev vS (s : ByteArray) : PV := .b (.string s)
def vStrs (l : List ByteArray) : PV := .val l.length (l.map vS)
theorem cln_strs {n : Nat} {l : List ByteArray} : Cln P (.val n (l.map vS)) := Cln.val (by simp [Cln.b])
theorem cln_ints {n : Nat} {k : IntKind} {l : List Int} : Cln P (.val n (l.map fun x => .b (.int k x))) := Cln.val (by simp [Cln.b])
theorem clean_b {v : Value} : Cln P (.b v) = True := eq_true (Cln.b v)
theorem clean_strs {n : Nat} {l : List ByteArray} : Cln P (.val n (l.map vS)) = True := eq_true cln_strs
theorem Weak.flat {s t : St} (h4 : t.mem = noMem) (h5 : All2 (vw P (kap []) s.mem) s.tmps t.tmps) : Weak P (fun _ => False) s t :=
  Weak.intro [] (by simp) (by simp) (by simp) h4 h5 (fun _ h => h.elim)
theorem wrap_id {x : Int} (h1 : -9223372036854775808 ≤ x) (h2 : x ≤ 9223372036854775807) : IntKind.i64.wrap x = x := by rw [IntKind.wrap_i64]; omega
theorem ndT {p : Prop} [Decidable p] (h : (!decide p) = true) : ¬ p := by simpa using h
theorem ndF {p : Prop} [Decidable p] (h : (!decide p) = false) : p := by simpa using h
theorem nbT {b : Bool} (h : (!b) = true) : b = false := by simpa using h
theorem nbF {b : Bool} (h : (!b) = false) : b = true := by simpa using h
theorem upd_hit (m : Mem) (i : Nat) (s : Slot) : upd m i s i = s := upd_same m i s

end Go.Pv

/- The engine of this session, part 16: regions that draw their order and make rows. -/
set_option linter.unusedVariables false
set_option linter.unusedSimpArgs false
namespace Go.Pv
variable {P : Program} {mem m m2 : Mem} {st s : St} {o oi oj : Oper} {ops : Array Oper} {base i j : Nat}

abbrev URow := Nat × TypeId × List PV
def ExtM (m m2 : Mem) : Prop := ∀ i, m i ≠ .free → m2 i = m i
theorem ExtM.refl (m : Mem) : ExtM m m := fun _ _ => rfl
def addU : List URow → Mem → Mem
  | [], m => m
  | u :: l, m => upd (addU l m) u.1 (.row u.2.1 u.2.2)
theorem addU_out : ∀ {l : List URow} {m : Mem} {i : Nat}, (∀ u ∈ l, u.1 ≠ i) → addU l m i = m i
  | [], _, _, _ => rfl
  | u :: l, m, i, h => by
    simp only [addU]
    rw [upd_ne _ _ (Ne.symm (h u (List.mem_cons_self ..)))]
    exact addU_out fun v hv => h v (List.mem_cons_of_mem _ hv)
theorem addU_in : ∀ {l : List URow} {m : Mem} {i : Nat}, (∃ u ∈ l, u.1 = i) → addU l m i ≠ .free ∧ ∀ m', addU l m' i = addU l m i
  | [], _, _, h => by obtain ⟨_, h, _⟩ := h; cases h
  | u :: l, m, i, h => by
    simp only [addU]
    by_cases hu : i = u.1
    · subst hu; rw [upd_same]; exact ⟨by simp, fun m' => by rw [upd_same]⟩
    · rw [upd_ne _ _ hu]
      obtain ⟨v, hv, e⟩ := h
      have hv' : v ∈ l := by
        cases hv with
        | head => exact absurd e.symm hu
        | tail _ hv => exact hv
      obtain ⟨h1, h2⟩ := addU_in (l := l) (m := m) (i := i) ⟨v, hv', e⟩
      exact ⟨h1, fun m' => by rw [upd_ne _ _ hu]; exact h2 m'⟩
theorem addU_comm {l k : List URow} (h : ∀ u ∈ l, ∀ v ∈ k, u.1 ≠ v.1) (m : Mem) : addU l (addU k m) = addU k (addU l m) := by
  funext i
  by_cases h1 : ∃ u ∈ l, u.1 = i
  · have h2 : ∀ v ∈ k, v.1 ≠ i := fun v hv e => by obtain ⟨u, hu, e'⟩ := h1; exact h u hu v hv (e'.trans e.symm)
    rw [addU_out (l := k) h2]
    exact ((addU_in h1).2 (addU k m))
  · have h1' : ∀ u ∈ l, u.1 ≠ i := fun u hu e => h1 ⟨u, hu, e⟩
    rw [addU_out (l := l) h1']
    by_cases h2 : ∃ v ∈ k, v.1 = i
    · exact ((addU_in h2).2 m).symm.trans ((addU_in h2).2 (addU l m)).symm |>.symm |>.symm ▸ rfl
    · have h2' : ∀ v ∈ k, v.1 ≠ i := fun v hv e => h2 ⟨v, hv, e⟩
      rw [addU_out (l := k) h2', addU_out (l := k) h2', addU_out (l := l) h1']

def inKeys (lo : Nat) (ups : List URow) : Prop := ∀ u ∈ ups, lo ≤ u.1 ∧ u.1 < lo + 16
/-- An operation surely tells x and makes the rows ups, whatever other rows there are. -/
def SureA (P : Program) (key : Nat) (o : Oper) (ts : List PV) (mm : Mem) (x : PV) (ups : List URow) : Prop :=
  inKeys key ups ∧ ∀ m2, ExtM mm m2 → (∀ u ∈ ups, m2 u.1 = .free) → ∀ K : PV → Mem → Prop, K x (addU ups m2) → aop P key o ⟨ts, m2⟩ K
theorem SureA.same {key : Nat} {ts : List PV} {mm : Mem} {x y : PV} {ups : List URow} {dst : Option Tmp} (h : ∀ d, dst = some d → d ∉ o.looksAt ops) : SureA P key o (putL ts dst y) mm x ups ↔ SureA P key o ts mm x ups := by
  have he : ∀ (m2 : Mem) K, aop P key o ⟨putL ts dst y, m2⟩ K = aop P key o ⟨ts, m2⟩ K := fun m2 K => by
    refine aop_congr (s := ⟨putL ts dst y, m2⟩) (t := ⟨ts, m2⟩) key rfl (fun z hz => eval_putL fun d hd e => h d hd ?_) K
    subst e
    unfold Oper.looksAt
    exact List.mem_append_left _ (List.mem_filterMap.2 ⟨.tmp d, by simpa using hz, rfl⟩)
  unfold SureA
  constructor
  · rintro ⟨h1, h2⟩; exact ⟨h1, fun m2 a b K hK => by rw [← he]; exact h2 m2 a b K hK⟩
  · rintro ⟨h1, h2⟩; exact ⟨h1, fun m2 a b K hK => by rw [he]; exact h2 m2 a b K hK⟩

def noEdge (o : Oper) (k : Nat) : Prop := ∀ e ∈ o.after, Region.binds .any e = true → e.on ≠ k
def Yl (P : Program) (base : Nat) (ops : Array Oper) (i : Nat) (o : Oper) (x : PV) (ups : List URow) (s : St) : Prop :=
  (gd ops o s.tmps = some true ∧ ∃ mm, ExtM mm s.mem ∧ (∀ k, k < 1000 → k ≠ i → noEdge o k → ∀ id, base + 16 * k ≤ id → id < base + 16 * k + 16 → mm id = .free) ∧ SureA P (base + 16 * i) o s.tmps mm x ups) ∨
  (gd ops o s.tmps = some false ∧ x = .b undef ∧ ups = [])
theorem Yl.keys {x : PV} {ups : List URow} (h : Yl P base ops i o x ups s) : inKeys (base + 16 * i) ups := by
  rcases h with ⟨_, _, _, _, h, _⟩ | ⟨_, _, rfl⟩
  · exact h
  · intro u hu; cases hu
def putS (s : St) (o : Oper) (x : PV) (ups : List URow) : St := ⟨putL s.tmps o.dst x, addU ups s.mem⟩
def sA (P : Program) (base : Nat) (ops : Array Oper) (i : Nat) (K : St → Prop) (s : St) : Prop :=
  match ops[i]? with
  | none => K s
  | some o => ∃ x ups, (∀ u ∈ ups, s.mem u.1 = .free) ∧ Yl P base ops i o x ups s ∧ K (putS s o x ups)
theorem sA_aAt {K K' : St → Prop} (hk : ∀ s, K s → K' s) (h : sA P base ops i K s) : aAt P base ops i K' s := by
  unfold sA at h
  unfold aAt
  cases ho : ops[i]? with
  | none => simp only [ho] at h ⊢; exact hk _ h
  | some o =>
    simp only [ho] at h ⊢
    obtain ⟨x, ups, hf, hy, hK⟩ := h
    rcases hy with ⟨hg, mm, h1, _, h2⟩ | ⟨hg, rfl, rfl⟩
    · exact aGuard_true hg (h2.2 s.mem h1 hf (fun x m' => K' (put s o.dst x m')) (hk _ hK))
    · exact aGuard_false hg (hk _ hK)
theorem sA_mono {K K' : St → Prop} (hk : ∀ s, K s → K' s) (h : sA P base ops i K s) : sA P base ops i K' s := by
  unfold sA at *
  cases ho : ops[i]? with
  | none => simp only [ho] at h ⊢; exact hk _ h
  | some o =>
    simp only [ho] at h ⊢
    obtain ⟨x, ups, h1, h2, h3⟩ := h
    exact ⟨x, ups, h1, h2, hk _ h3⟩
theorem keys_ne {p q : Nat} (hpq : p ≠ q) {k l : List URow} (hk : inKeys (base + 16 * p) k) (hl : inKeys (base + 16 * q) l) : ∀ u ∈ k, ∀ v ∈ l, u.1 ≠ v.1 := fun u hu v hv e => by
  have h1 := hk u hu
  have h2 := hl v hv
  omega
theorem sA_put {x : PV} {upi : List URow} (hj : ops[j]? = some oj) (hij : j ≠ i) (hap : oi.apart ops oj = true) (hno : noEdge oj i) (hi3 : i < 1000) {K : St → Prop} (hf : ∀ u ∈ upi, s.mem u.1 = .free) (hy : Yl P base ops i oi x upi s) (h : sA P base ops j K (putS s oi x upi)) :
    sA P base ops j (fun s' => (∀ u ∈ upi, s'.mem u.1 = .free) ∧ Yl P base ops i oi x upi s' ∧ K (putS s' oi x upi)) s := by
  obtain ⟨h1, h2, h3⟩ := Oper.apart_spec hap
  have hki := hy.keys
  unfold sA at *
  simp only [hj] at *
  obtain ⟨y, upj, hfj, hyj, hK⟩ := h
  have hkj := hyj.keys
  have hfj' : ∀ u ∈ upj, s.mem u.1 = .free := fun u hu => by
    have := hfj u hu
    simp only [putS] at this
    rwa [addU_out (fun v hv => (keys_ne hij hkj hki u hu v hv).symm)] at this
  refine ⟨y, upj, hfj', ?_, fun u hu => ?_, ?_, ?_⟩
  · rcases hyj with ⟨hg, mm, he, hfr, hs⟩ | ⟨hg, rfl, rfl⟩
    · refine .inl ⟨by rwa [putS, gd_putL h1] at hg, mm, fun id hid => ?_, hfr, (SureA.same h1).1 hs⟩
      have h4 := he id hid
      simp only [putS] at h4
      rwa [addU_out (fun u hu e => ?_)] at h4
      have := hki u hu
      exact hid (hfr i hi3 (Ne.symm hij) hno id (by omega) (by omega))
    · exact .inr ⟨by rwa [putS, gd_putL h1] at hg, rfl, rfl⟩
  · simp only [putS]
    rw [addU_out (fun v hv => keys_ne hij hkj hki v hv u hu)]
    exact hf u hu
  · rcases hy with ⟨hg, mm, he, hfr, hs⟩ | ⟨hg, rfl, rfl⟩
    · refine .inl ⟨by rw [putS, gd_putL h3]; exact hg, mm, fun id hid => ?_, hfr, (SureA.same h3).2 hs⟩
      simp only [putS]
      rw [addU_out (fun u hu e => ?_)]
      · exact he id hid
      · have h4 := hfj' u hu
        rw [e, he id hid] at h4
        exact hid h4
    · exact .inr ⟨by rw [putS, gd_putL h3]; exact hg, rfl, rfl⟩
  · have e : putS (putS s oi x upi) oj y upj = putS (putS s oj y upj) oi x upi := by
      simp only [putS]
      rw [putL_comm _ x y h2, addU_comm (keys_ne hij hkj hki)]
    rw [← e]
    exact hK

def sAny (P : Program) (base : Nat) (ops : Array Oper) (n : Nat) (L : Array Bool → St → Prop) : Nat → Array Bool → St → Prop
  | 0, listed, s => L listed s
  | f + 1, listed, s => Region.ready .any ops listed ≠ [] ∧ ∀ i ∈ Region.ready .any ops listed, i < n ∧ sA P base ops i (sAny P base ops n L f (listed.setIfInBounds i true)) s
theorem aAny_of_sAny {n g : Nat} {L : Array Bool → St → Prop} {K : St → Prop} (hL : ∀ listed s, L listed s → aAny P base ops K g listed s) :
    ∀ (f : Nat) (listed : Array Bool) (s : St), sAny P base ops n L f listed s → aAny P base ops K (f + g) listed s
  | 0, listed, s, h => by rw [Nat.zero_add]; exact hL _ _ h
  | f + 1, listed, s, h => by
    rw [show f + 1 + g = (f + g) + 1 by omega]
    exact ⟨fun h0 => absurd h0 h.1, fun i hi => sA_aAt (fun s' h' => aAny_of_sAny hL f _ s' h') (h.2 i hi).2⟩
theorem sAny_first {n : Nat} {x : PV} {ups : List URow} {L : Array Bool → St → Prop} (hi : ops[i]? = some oi)
    (hw : ∀ listed, HeadInv .any ops n listed → ∀ i, i < n → listed.getD i true = false → ∀ t, n ≤ t → t ∉ Region.ready .any ops listed) (hin : i < n) (hi3 : i < 1000)
    (hdone : ∀ listed s, L listed s → ∀ j ∈ Region.ready .any ops listed, n ≤ j) :
    ∀ (f : Nat) (listed : Array Bool) (s : St), HeadInv .any ops n listed →
      (∀ j oj, ops[j]? = some oj → j ≠ i → listed.getD j true = false → (∀ e ∈ oj.after, Region.binds .any e = true → e.on ≠ i) → oi.apart ops oj = true) →
      i ∈ Region.ready .any ops listed → (∀ u ∈ ups, s.mem u.1 = .free) → Yl P base ops i oi x ups s →
      sAny P base ops n L f (listed.setIfInBounds i true) (putS s oi x ups) → sAny P base ops n L (f + 1) listed s := by
  intro f
  induction f with
  | zero =>
    intro listed s inv _ hr hf hy H
    have hun := (mem_ready.1 hr).1
    refine ⟨fun h => (by rw [h] at hr; cases hr), fun j hj => ?_⟩
    have hjn : j < n := by
      rcases Nat.lt_or_ge j n with h | h
      · exact h
      · exact absurd hj (hw listed inv i hin hun j h)
    refine ⟨hjn, ?_⟩
    by_cases hji : j = i
    · subst hji
      unfold sA
      simp only [hi]
      exact ⟨x, ups, hf, hy, H⟩
    · have := hdone _ _ H j (ready_mono hj hji)
      omega
  | succ f ih =>
    intro listed s inv hfree hr hf hy H
    have hun := (mem_ready.1 hr).1
    refine ⟨fun h => (by rw [h] at hr; cases hr), fun j hj => ?_⟩
    have hjn : j < n := by
      rcases Nat.lt_or_ge j n with h | h
      · exact h
      · exact absurd hj (hw listed inv i hin hun j h)
    refine ⟨hjn, ?_⟩
    by_cases hji : j = i
    · subst hji
      unfold sA
      simp only [hi]
      exact ⟨x, ups, hf, hy, H⟩
    · have h1 := (H.2 j (ready_mono hj hji)).2
      obtain ⟨hjun, oj, hoj, hall⟩ := mem_ready.1 hj
      have hnot : ∀ e ∈ oj.after, Region.binds .any e = true → e.on ≠ i := fun e he hb heq => by
        have h1 := hall e he hb
        rw [heq, getD_both hun] at h1
        cases h1
      have h2 := sA_put hoj hji (hfree j oj hoj hji hjun hnot) hnot hi3 hf hy h1
      have hfree' : ∀ k ok, ops[k]? = some ok → k ≠ i → (listed.setIfInBounds j true).getD k true = false →
          (∀ e ∈ ok.after, Region.binds .any e = true → e.on ≠ i) → oi.apart ops ok = true := fun k ok hk hki hun hno => by
        refine hfree k ok hk hki ?_ hno
        by_cases hjk : j = k
        · subst hjk; exact hjun
        · rw [getD_set_ne true hjk] at hun; exact hun
      refine sA_mono (fun s' h3 => ih (listed.setIfInBounds j true) s' (inv.set hj hjn) hfree' (ready_mono hr (Ne.symm hji)) h3.1 h3.2.1 ?_) h2
      rw [Array.setIfInBounds_comm _ _ hji]
      exact h3.2.2

/-- The operations ahead, in the text's order; the rows that they make are listed. -/
def aheadU (P : Program) (base : Nat) (ops : Array Oper) (m0 : Mem) : Nat → List Oper → List PV → List URow → (List PV → List URow → Prop) → Prop
  | _, [], ts, U, K => K ts U
  | i, o :: rest, ts, U, K => (match gd ops o ts with
    | none => False
    | some t => (t = true → ∃ x ups V, (V = [] ∨ ∃ v k, V = [v] ∧ v ∈ U ∧ base + 16 * k ≤ v.1 ∧ v.1 < base + 16 * k + 16 ∧ ¬ noEdge o k ∧ addU U m0 v.1 = .row v.2.1 v.2.2) ∧ SureA P (base + 16 * i) o ts (addU V m0) x ups ∧ aheadU P base ops m0 (i + 1) rest (putL ts o.dst x) (ups ++ U) K) ∧
      (t = false → aheadU P base ops m0 (i + 1) rest (putL ts o.dst (.b undef)) U K))
theorem addU_append : ∀ (l k : List URow) (m : Mem), addU (l ++ k) m = addU l (addU k m)
  | [], _, _ => rfl
  | u :: l, k, m => by simp only [List.cons_append, addU, addU_append l k m]

theorem aheadU_yl {m0 : Mem} {rest : List Oper} {ts : List PV} {U : List URow} {K : List PV → List URow → Prop} (hfr : ∀ id, base ≤ id → id < base + 16384 → m0 id = .free) (hsz : ∀ k, ops[k]? ≠ none → k < 1000) (hi : i < 1000)
    (hU : ∀ u ∈ U, ∃ k, k < i ∧ base + 16 * k ≤ u.1 ∧ u.1 < base + 16 * k + 16) (h : aheadU P base ops m0 i (o :: rest) ts U K) :
    ∃ x ups, (∀ u ∈ ups, addU U m0 u.1 = .free) ∧ Yl P base ops i o x ups ⟨ts, addU U m0⟩ ∧ aheadU P base ops m0 (i + 1) rest (putL ts o.dst x) (ups ++ U) K := by
  have hext : ExtM m0 (addU U m0) := fun id hid => addU_out fun u hu e => by
    obtain ⟨k, h1, h2, h3⟩ := hU u hu
    exact hid (hfr id (by omega) (by omega))
  unfold aheadU at h
  split at h
  · exact h.elim
  · rename_i t hg
    cases t with
    | false => exact ⟨.b undef, [], by simp, .inr ⟨hg, rfl, rfl⟩, h.2 rfl⟩
    | true =>
      obtain ⟨x, ups, V, hV, hs, hrest⟩ := h.1 rfl
      refine ⟨x, ups, fun u hu => ?_, .inl ⟨hg, addU V m0, ?_, ?_, hs⟩, hrest⟩
      · have h1 := hs.1 u hu
        rw [addU_out (fun v hv e => ?_)]
        · exact hfr _ (by omega) (by omega)
        · obtain ⟨k, h2, h3, h4⟩ := hU v hv
          omega
      · rcases hV with rfl | ⟨v, k, rfl, hv, h1, h2, _, h3⟩
        · exact hext
        · intro id hid
          by_cases e : id = v.1
          · subst e; show addU U m0 v.1 = _; rw [h3]; simp [addU, upd]
          · have : addU [v] m0 id = m0 id := by simp [addU, upd, e]
            rw [this] at hid ⊢
            exact hext id hid
      · intro k hk3 hki hno id h1 h2
        have hm0 : m0 id = .free := hfr id (by omega) (by omega)
        rcases hV with rfl | ⟨v, k', rfl, hv, h3, h4, h5, h6⟩
        · exact hm0
        · have hne : id ≠ v.1 := fun e => by
            have : k ≠ k' := fun e' => h5 (e' ▸ hno)
            omega
          simp [addU, upd, hne, hm0]

theorem sAny_lex {n g : Nat} {m0 : Mem} {Lq : List PV → List URow → Prop} (hfr : ∀ id, base ≤ id → id < base + 16384 → m0 id = .free) (hn3 : n < 1000) (hsz : ∀ k, ops[k]? ≠ none → k < 1000)
    (hw : ∀ listed, HeadInv .any ops n listed → ∀ i, i < n → listed.getD i true = false → ∀ t, n ≤ t → t ∉ Region.ready .any ops listed) :
    ∀ (l : List Oper) (k : Nat) (listed : Array Bool) (ts : List PV) (U : List URow), (∀ j, j < l.length → l[j]? = ops[k + j]?) → k + l.length = n → HeadInv .any ops n listed →
    Region.lexHead .any ops g l.length k listed = true → (∀ u ∈ U, ∃ q, q < k ∧ base + 16 * q ≤ u.1 ∧ u.1 < base + 16 * q + 16) → aheadU P base ops m0 k l ts U Lq →
    sAny P base ops n (fun listed' s' => Region.seqB .any ops g n listed' = true ∧ ∃ ts' U', s' = ⟨ts', addU U' m0⟩ ∧ Lq ts' U') l.length listed ⟨ts, addU U m0⟩
  | [], k, listed, ts, U, _, hk, _, hB, _, h => by
    have : k = n := by simpa using hk
    subst this
    exact ⟨by simpa [Region.lexHead] using hB, ts, U, rfl, h⟩
  | o :: l, k, listed, ts, U, hl, hk, inv, hB, hU, h => by
    have h0 : ops[k]? = some o := by simpa using (hl 0 (by simp)).symm
    simp only [List.length_cons, Region.lexHead, Bool.and_eq_true] at hB
    obtain ⟨⟨hr, hf⟩, hB'⟩ := hB
    have hkn : k < n := by simp only [List.length_cons] at hk; omega
    have hr' : k ∈ Region.ready .any ops listed := by simpa using hr
    obtain ⟨x, ups, hfu, hy, hK⟩ := aheadU_yl hfr hsz (by omega) hU h
    have hkeys := hy.keys
    have hrec := sAny_lex hfr hn3 hsz hw l (k + 1) (listed.setIfInBounds k true) (putL ts o.dst x) (ups ++ U) (fun j hj => by have := hl (j + 1) (by simp; omega); simpa [Nat.add_assoc, Nat.add_comm 1 j] using this) (by simp only [List.length_cons] at hk; omega) (inv.set hr' hkn) hB' (fun u hu => by
      rcases List.mem_append.1 hu with hu | hu
      · exact ⟨k, by omega, hkeys u hu⟩
      · obtain ⟨q, h1, h2⟩ := hU u hu
        exact ⟨q, by omega, h2⟩) hK
    rw [addU_append] at hrec
    exact sAny_first h0 hw hkn (by omega) (fun listed' s' hL => seqB_ready hL.1) l.length listed ⟨ts, addU U m0⟩ inv (Region.free_spec h0 hf) hr' hfu hy hrec

theorem aheadU_any {n : Nat} {K : St → Prop} (hB : drawB ops n = true) (hs : ops.size < 1000) (hfr : ∀ id, base ≤ id → id < base + 16384 → st.mem id = .free)
    (h : aheadU P base ops st.mem 0 (ops.toList.take n) st.tmps [] fun ts U => aops P base ops n (ops.toList.drop n) ⟨ts, addU U st.mem⟩ K) : aAny P base ops K ops.size (Array.replicate ops.size false) st := by
  simp only [drawB, Bool.and_eq_true, decide_eq_true_eq, Bool.or_eq_true, beq_iff_eq] at hB
  obtain ⟨⟨hn, hsc⟩, hlex⟩ := hB
  have hw : ∀ listed, HeadInv .any ops n listed → ∀ i, i < n → listed.getD i true = false → ∀ t, n ≤ t → t ∉ Region.ready .any ops listed := fun listed inv i hi hun t ht hr => by
    rcases hsc with rfl | ⟨hs, hc⟩
    · obtain ⟨_, ot, hot, _⟩ := mem_ready.1 hr
      have := (Array.getElem?_eq_some_iff.1 hot).1
      omega
    · by_cases hlt : n < ops.size
      · exact tail_waits hs hc hlt inv _ i rfl hi hun t ht hr
      · obtain ⟨_, ot, hot, _⟩ := mem_ready.1 hr
        have := (Array.getElem?_eq_some_iff.1 hot).1
        omega
  have htl : (ops.toList.take n).length = n := by simp; omega
  have hdl : (ops.toList.drop n).length = ops.size - n := by simp
  have inv0 : HeadInv .any ops n (Array.replicate ops.size false) :=
    ⟨by simp, fun j oj _ hl => (by rw [getD_replicate_false] at hl; cases hl), fun t _ ht => getD_in (by simpa using ht) (getD_replicate_false _ _)⟩
  have H := sAny_lex (P := P) (base := base) (g := ops.size - n) hfr (by omega) (fun k hk => by
    have := (Array.getElem?_eq_some_iff.1 (Option.ne_none_iff_exists'.1 hk).choose_spec).1
    omega) hw (ops.toList.take n) 0 _ st.tmps [] (fun j hj => by
    have hj' : j < n := by rw [htl] at hj; exact hj
    simp [hj']) (by simpa using htl) inv0 (by rw [htl]; exact hlex) (by simp) h
  have := aAny_of_sAny (K := K) (g := ops.size - n) (fun listed s hL => by
    obtain ⟨h1, ts', U', rfl, h2⟩ := hL
    have := aAny_of_seq (ops.toList.drop n) n listed ⟨ts', addU U' st.mem⟩ (fun j => by simp [List.getElem?_drop]) (by rw [hdl]; exact h1) h2
    rwa [hdl] at this) _ _ _ H
  rw [htl, show n + (ops.size - n) = ops.size by omega] at this
  exact this

end Go.Pv

/- The engine of this session, part 17: steps of a region that draws its order and makes rows. -/
set_option linter.unusedVariables false
set_option linter.unusedSimpArgs false
namespace Go.Pv
variable {P : Program} {R : Nat → Prop} {mm m0 m2 : Mem} {st s : St} {o : Oper} {ops : Array Oper} {base i : Nat} {ts : List PV} {Q : St → Exit → Prop}

def addOp (o : Oper) : Bool :=
  match o.op with
  | .store .. => false
  | .call c => (match c.callee with | .builtin .append => false | .builtin _ => true | _ => false)
  | _ => true

theorem aLoad_ext {t : TypeId} {p : PV} (h : ExtM mm m2) {G : PV → Prop} (hl : aLoad P t p mm G) : aLoad P t p m2 G := by
  unfold aLoad at hl ⊢
  cases hT : tinfo P t with
  | none => simp only [hT] at hl
  | some T =>
    simp only [hT] at hl ⊢
    cases p with
    | ptr i' o' =>
      simp only at hl ⊢
      cases hr : mm i' with
      | row t' xs => rw [h i' (by rw [hr]; simp), hr]; rw [hr] at hl; exact hl
      | _ => rw [hr] at hl; exact hl.elim
    | _ => exact hl
theorem aSrc_ext {sz : Nat} {x : PV} (h : ExtM mm m2) {G : Nat → List PV → Prop} (hl : aSrc mm sz x G) : aSrc m2 sz x G := by
  cases x with
  | ref j o' n =>
    simp only [aSrc] at hl ⊢
    cases hr : mm j with
    | row t' xs => rw [h j (by rw [hr]; simp), hr]; rw [hr] at hl; exact hl
    | _ => rw [hr] at hl; exact hl.elim
  | b v => unfold aSrc at hl ⊢; split at hl <;> simp_all
  | _ => exact hl
theorem aBuiltin_mem {key : Nat} {b : Builtin} {tys : Array TypeId} {args : List PV} {K : PV → Mem → Prop} {d : Prop} (h : b ≠ .append) : aBuiltin P key b tys args m2 K d = aBuiltin P key b tys args mm (fun x _ => K x m2) d := by
  unfold aBuiltin
  split <;> first | rfl | exact absurd rfl h
theorem aConv_ext {src dst : TypeId} {x : PV} (h : ExtM mm m2) {G : PV → Prop} {d d2 : Prop} (hd : d → d2) (hl : aConv P src dst x mm G d) : aConv P src dst x m2 G d2 := by
  unfold aConv at *
  split at hl
  · split at hl
    · exact hl
    · exact hd hl
  · split at hl
    · exact ⟨hl.1, aSrc_ext h hl.2⟩
    · exact hd hl
  · split at hl
    · exact ⟨hl.1, aSrc_ext h hl.2⟩
    · exact hd hl
  · exact hd hl
theorem aBin_imp {op : BinOp} {t : TypeId} {x y : PV} {G : Value → Prop} {d d2 : Prop} (hd : d → d2) (hl : aBin P op t x y G d) : aBin P op t x y G d2 := by
  unfold aBin at *
  split at hl
  · unfold binI at *; split at hl <;> first | exact hl | exact hd hl
  · unfold binS at *; split at hl <;> first | exact hl | exact hd hl
  · split at hl <;> first | exact hl | exact hd hl
  · exact hd hl
theorem aUn_imp {op : UnOp} {x : PV} {G : Value → Prop} {d d2 : Prop} (hd : d → d2) (hl : aUn op x G d) : aUn op x G d2 := by
  unfold aUn at *
  split at hl <;> first | exact hl | exact hd hl
theorem aSlice_imp {t : TypeId} {x : PV} {lo hi mx : Option PV} {G : PV → Prop} {d d2 : Prop} (hd : d → d2) (hl : aSlice P t x lo hi mx G d) : aSlice P t x lo hi mx G d2 := by
  unfold aSlice at *
  split at hl
  · split at hl <;> first | exact hl | exact hd hl
  · exact hd hl

/-- One row at most, under the operation's own name. -/
def oneRow (key : Nat) (ups : List URow) : Prop := ups = [] ∨ ∃ t xs, ups = [(key, t, xs)]
theorem aop_ext {key : Nat} {K : PV → Mem → Prop} (hadd : addOp o = true) (h : aop P key o ⟨ts, mm⟩ K) : ∃ x ups, K x (addU ups mm) ∧ oneRow key ups ∧ SureA P key o ts mm x ups := by
  -- an operation that only reads
  have reads : ∀ (F : Mem → (PV → Prop) → Prop), Tells (F mm) → (∀ m2, ExtM mm m2 → ∀ G, F mm G → F m2 G) → (∀ m2 K, aop P key o ⟨ts, m2⟩ K = F m2 fun x => K x m2) → ∃ x ups, K x (addU ups mm) ∧ oneRow key ups ∧ SureA P key o ts mm x ups := fun F hT hmono he => by
    rw [he] at h
    obtain ⟨x, h1, h2⟩ := hT _ h
    refine ⟨x, [], h1, .inl rfl, And.intro (fun u hu => by cases hu) (fun m2 hx _ K' hK' => ?_)⟩
    rw [he]
    exact hmono m2 hx _ (h2 _ hK')
  -- an operation that makes a row
  have makes : ∀ (C : Prop) (x : PV) (e : TypeId) (ys : List PV), (∀ m2 K, aop P key o ⟨ts, m2⟩ K = (C ∧ m2 key = .free ∧ K x (upd m2 key (.row e ys)))) → ∃ x ups, K x (addU ups mm) ∧ oneRow key ups ∧ SureA P key o ts mm x ups := fun C x e ys he => by
    rw [he] at h
    refine ⟨x, [(key, e, ys)], h.2.2, .inr ⟨e, ys, rfl⟩, And.intro (fun u hu => ?_) (fun m2 hx hf K' hK' => ?_)⟩
    · simp at hu; subst hu; exact ⟨Nat.le_refl _, by simp⟩
    · rw [he]
      exact ⟨h.1, hf (key, e, ys) (List.mem_cons_self ..), hK'⟩
  have hb : ∀ m2, ExtM mm m2 → ∀ G : PV → Prop, aBase P o ⟨ts, mm⟩ (fun x _ => G x) → aBase P o ⟨ts, m2⟩ (fun x _ => G x) := fun m2 _ G hh => hh
  have hbT : Tells fun G : PV → Prop => aBase P o ⟨ts, mm⟩ (fun x _ => G x) := by
    unfold aBase
    exact .and (.and (.ex fun v => .and (.one _)))
  have ev : ∀ (m2 : Mem) (x : Operand), St.eval ⟨ts, m2⟩ x = St.eval ⟨ts, mm⟩ x := fun m2 x => by cases x <;> rfl
  have evs : ∀ (m2 : Mem) (x : Option Operand), x.map (St.eval ⟨ts, m2⟩) = x.map (St.eval ⟨ts, mm⟩) := fun m2 x => by cases x <;> simp [ev m2]
  have evl : ∀ (m2 : Mem) (xs : List Operand), xs.map (St.eval ⟨ts, m2⟩) = xs.map (St.eval ⟨ts, mm⟩) := fun m2 xs => List.map_congr_left fun x _ => ev m2 x
  have evp : ∀ (m2 : Mem) (ps : List (Nat × Operand)), (ps.map fun p => (p.1, St.eval ⟨ts, m2⟩ p.2)) = ps.map fun p => (p.1, St.eval ⟨ts, mm⟩ p.2) := fun m2 ps => List.map_congr_left fun p _ => by rw [ev m2]
  have bs : ∀ m2 (K : PV → Mem → Prop), aBase P o ⟨ts, m2⟩ K = aBase P o ⟨ts, mm⟩ (fun x _ => K x m2) := fun m2 K => by
    unfold aBase
    simp only [ev m2]
  cases ho : o.op with
  | move x => exact reads (fun _ G => G (St.eval ⟨ts, mm⟩ x)) (.one _) (fun _ _ _ h => h) fun m2 K => by unfold aop; simp only [ho, ev m2]
  | assign x => exact reads (fun _ G => G (St.eval ⟨ts, mm⟩ x)) (.one _) (fun _ _ _ h => h) fun m2 K => by unfold aop; simp only [ho, ev m2]
  | pick c x y => exact reads (fun _ G => match St.eval ⟨ts, mm⟩ c with | .b (.bool t) => G (if t then St.eval ⟨ts, mm⟩ x else St.eval ⟨ts, mm⟩ y) | _ => False) (by split; exact .one _; exact .no) (fun _ _ _ h => h) fun m2 K => by unfold aop; simp only [ho, ev m2]; rfl
  | alloc e =>
    unfold aop at h
    simp only [ho] at h
    cases hT : tinfo P e with
    | none => simp [hT] at h
    | some T =>
      cases hz : T.zero with
      | none => simp [hT, hz] at h
      | some z => refine makes True (.ptr key 0) e (z.map .b) fun m2 K => ?_; unfold aop; simp [ho, hT, hz]
  | box e x =>
    cases hy : cellsOf (St.eval ⟨ts, mm⟩ x) with
    | none => unfold aop at h; simp [ho, hy] at h
    | some ys => refine makes True (.ptr key 0) e ys fun m2 K => ?_; unfold aop; simp [ho, ev m2, hy]
  | build t parts => exact reads (fun _ G => aBuild P t (parts.toList.map fun p : Nat × Operand => (p.1, St.eval ⟨ts, mm⟩ p.2)) G) (tells_aBuild _ _) (fun _ _ _ h => h) fun m2 K => by unfold aop; simp only [ho, evp m2]
  | buildSlice t len parts =>
    unfold aop at h
    simp only [ho] at h
    unfold aBuildSlice at h
    cases hs : selem P t with
    | none => simp [hs] at h
    | some p =>
      obtain ⟨e, T⟩ := p
      cases hz : T.zero with
      | none => simp [hs, hz] at h
      | some z =>
        cases hf : fillPV (fun i => some (i * T.size, T.size)) (zrep len (z.map .b)) (parts.toList.map fun p => (p.1, St.eval ⟨ts, mm⟩ p.2)) with
        | none => simp [hs, hz, hf] at h
        | some out =>
          refine makes (z.length = T.size ∧ len * T.size ≤ 16777216 ∧ len ≤ maxLen) (.ref key 0 len) e out fun m2 K => ?_
          unfold aop
          simp only [ho]
          unfold aBuildSlice
          simp only [hs, hz, evp m2, hf, and_assoc]
  | load t x => exact reads (fun m2 G => aLoad P t (St.eval ⟨ts, mm⟩ x) m2 G) (tells_aLoad _ _) (fun m2 hx G h => aLoad_ext hx h) fun m2 K => by unfold aop; simp only [ho, ev m2]
  | nilCheck x => exact reads (fun _ G => aNil (St.eval ⟨ts, mm⟩ x) G (aBase P o ⟨ts, mm⟩ (fun y _ => G y))) (by unfold aNil; split <;> first | exact .one _ | exact hbT) (fun _ _ _ h => h) fun m2 K => by unfold aop; simp only [ho, ev m2, bs m2 K]
  | binOp op t x y yt => exact reads (fun _ G => aBin P op t (St.eval ⟨ts, mm⟩ x) (St.eval ⟨ts, mm⟩ y) (fun v => G (.b v)) (aErr P op t (isConst y) (St.eval ⟨ts, mm⟩ x) (St.eval ⟨ts, mm⟩ y) (fun z => G z) (aBase P o ⟨ts, mm⟩ (fun y _ => G y)))) (tells_aBin (fun v => PV.b v) _ _ _ _ _ (tells_aErr (fun z => z) _ _ _ _ _ _ hbT)) (fun _ _ _ h => h) fun m2 K => by unfold aop; simp only [ho, ev m2, bs m2 K]
  | unOp op t x => exact reads (fun _ G => aUn op (St.eval ⟨ts, mm⟩ x) (fun v => G (.b v)) (aBase P o ⟨ts, mm⟩ (fun y _ => G y))) (tells_aUn (fun v => PV.b v) _ _ _ hbT) (fun _ _ _ h => h) fun m2 K => by unfold aop; simp only [ho, ev m2, bs m2 K]
  | convert src dst x => exact reads (fun m2 G => aConv P src dst (St.eval ⟨ts, mm⟩ x) m2 G (aBase P o ⟨ts, mm⟩ (fun y _ => G y))) (tells_aConv (fun v => v) _ _ _ _ hbT) (fun m2 hx G h => aConv_ext hx id h) fun m2 K => by unfold aop; simp only [ho, ev m2, bs m2 K]
  | makeSlice t l c =>
    unfold aop at h
    simp only [ho] at h
    unfold aMake at h
    cases hs : selem P t with
    | none => simp [hs] at h
    | some p =>
      obtain ⟨e, T⟩ := p
      split at h
      · rename_i e' T' k n k' n' heq hl hc
        rw [hs] at heq
        cases heq
        cases hz : T.zero with
        | none => simp [hz] at h
        | some z =>
          refine makes (n' = n ∧ 0 ≤ n ∧ z.length = T.size ∧ n ≤ 9223372036854775807 ∧ (T.bytes : Int) * n ≤ 281474976710656) (.ref key 0 n.toNat) e (zrep n.toNat (z.map .b)) fun m2 K => ?_
          unfold aop
          simp only [ho]
          unfold aMake
          simp only [hs, ev m2, hl, hc, hz, and_assoc]
      · exact h.elim
  | slice t x lo hi mx => exact reads (fun _ G => aSlice P t (St.eval ⟨ts, mm⟩ x) (lo.map (St.eval ⟨ts, mm⟩)) (hi.map (St.eval ⟨ts, mm⟩)) (mx.map (St.eval ⟨ts, mm⟩)) G (aBase P o ⟨ts, mm⟩ (fun y _ => G y))) (tells_aSlice (fun v => v) _ _ _ _ _ _ hbT) (fun _ _ _ h => h) fun m2 K => by unfold aop; simp only [ho, ev m2, evs m2, bs m2 K]
  | fieldAddr t x f => exact reads (fun _ G => aField P t (St.eval ⟨ts, mm⟩ x) f G) (tells_aField _ _ _) (fun _ _ _ h => h) fun m2 K => by unfold aop; simp only [ho, ev m2]
  | field t x f =>
    refine reads (fun _ G => aFieldV P t (St.eval ⟨ts, mm⟩ x) f G) ?_ (fun _ _ _ h => h) fun m2 K => by unfold aop; simp only [ho, ev m2]
    unfold aFieldV
    split
    · split
      · split
        · split
          · exact .one _
          · split
            · exact .one _
            · exact .no
        · exact .no
      · exact .no
    · exact .no
  | indexAddr t x ix => exact reads (fun _ G => aIndex P t (St.eval ⟨ts, mm⟩ x) (St.eval ⟨ts, mm⟩ ix) G) (tells_aIndex _ _ _) (fun _ _ _ h => h) fun m2 K => by unfold aop; simp only [ho, ev m2]
  | index t x ix => exact reads (fun _ G => aIdxS P t (St.eval ⟨ts, mm⟩ x) (St.eval ⟨ts, mm⟩ ix) G (aBase P o ⟨ts, mm⟩ (fun y _ => G y))) (by unfold aIdxS; split <;> first | exact .and (.and (.and (.one _))) | exact hbT) (fun _ _ _ h => h) fun m2 K => by unfold aop; simp only [ho, ev m2, bs m2 K]
  | extract x k =>
    refine reads (fun _ G => aExtract (St.eval ⟨ts, mm⟩ x) k G) ?_ (fun _ _ _ h => h) fun m2 K => by unfold aop; simp only [ho, ev m2]
    unfold aExtract
    split
    · split
      · exact .one _
      · exact .no
    · split
      · exact .one _
      · exact .no
    · exact .no
  | call c =>
    cases hc : c.callee with
    | value fo => simp [addOp, ho, hc] at hadd
    | invoke r n => simp [addOp, ho, hc] at hadd
    | builtin b =>
      have hne : b ≠ .append := fun e => by subst e; simp [addOp, ho, hc] at hadd
      refine reads (fun _ G => aBuiltin P key b c.argTypes (c.args.toList.map (St.eval ⟨ts, mm⟩)) mm (fun x _ => G x) (aBase P o ⟨ts, mm⟩ (fun y _ => G y))) ?_ (fun _ _ _ h => h) fun m2 K => ?_
      · unfold aBuiltin
        split
        · unfold aLen; split <;> first | exact .and (.one _) | exact .no
        · exact absurd rfl hne
        · unfold aMin; split <;> first | exact .and (.one _) | exact .no
        · unfold aMin; split <;> first | exact .and (.one _) | exact .no
        · exact hbT
      · unfold aop
        simp only [ho, hc, evl m2, bs m2 K]
        exact aBuiltin_mem hne
  | store t p x => simp [addOp, ho] at hadd
  | _ => exact reads (fun _ G => aBase P o ⟨ts, mm⟩ (fun y _ => G y)) hbT (fun _ _ _ h => h) fun m2 K => by unfold aop; simp only [ho, bs m2 K]

theorem oneRow_eq {key : Nat} {a b : List URow} (ha : oneRow key a) (hb : oneRow key b) (hf : mm key = .free) (h : addU a mm = addU b mm) : a = b := by
  have hk := congrFun h key
  rcases ha with rfl | ⟨t, xs, rfl⟩ <;> rcases hb with rfl | ⟨t', xs', rfl⟩
  · rfl
  · simp [addU, upd, hf] at hk
  · simp [addU, upd, hf] at hk
  · simp [addU, upd] at hk
    obtain ⟨rfl, rfl⟩ := hk
    rfl
/-- A step: rows that were there ahead of the region are all it may read. -/
theorem aheadU_run {rest : List Oper} {U : List URow} {K : List PV → List URow → Prop} (hadd : addOp o = true) (hg : gd ops o ts = some true) (hk : m0 (base + 16 * i) = .free)
    (h : ∀ K' : PV → Mem → Prop, (∀ x, aheadU P base ops m0 (i + 1) rest (putL ts o.dst x) U K → K' x m0) ∧ (∀ x t xs, aheadU P base ops m0 (i + 1) rest (putL ts o.dst x) ((base + 16 * i, t, xs) :: U) K → K' x (upd m0 (base + 16 * i) (.row t xs))) → aop P (base + 16 * i) o ⟨ts, m0⟩ K') : aheadU P base ops m0 i (o :: rest) ts U K := by
  unfold aheadU
  rw [hg]
  refine ⟨fun _ => ?_, fun e => by cases e⟩
  obtain ⟨x, ups, h1, h2, h3⟩ := aop_ext hadd (h (fun x m' => ∃ ups, m' = addU ups m0 ∧ oneRow (base + 16 * i) ups ∧ aheadU P base ops m0 (i + 1) rest (putL ts o.dst x) (ups ++ U) K) ⟨fun x hx => ⟨[], rfl, .inl rfl, hx⟩, fun x t xs hx => ⟨[(base + 16 * i, t, xs)], rfl, .inr ⟨t, xs, rfl⟩, hx⟩⟩)
  obtain ⟨ups', h4, h5, h6⟩ := h1
  have := oneRow_eq h2 h5 hk h4
  subst this
  exact ⟨x, ups, [], .inl rfl, h3, h6⟩
/-- A step that reads a row which an operation of the region, on which it hangs, has made. -/
theorem aheadU_run1 {rest : List Oper} {U : List URow} {K : List PV → List URow → Prop} (v : URow) (k : Nat) (hv : v ∈ U) (h1 : base + 16 * k ≤ v.1 ∧ v.1 < base + 16 * k + 16) (he : (o.after.any fun e => Region.binds .any e && e.on == k) = true) (hU : addU U m0 v.1 = .row v.2.1 v.2.2) (hki : k ≠ i)
    (hadd : addOp o = true) (hg : gd ops o ts = some true) (hk : m0 (base + 16 * i) = .free)
    (h : ∀ K' : PV → Mem → Prop, (∀ x, aheadU P base ops m0 (i + 1) rest (putL ts o.dst x) U K → K' x (upd m0 v.1 (.row v.2.1 v.2.2))) → aop P (base + 16 * i) o ⟨ts, upd m0 v.1 (.row v.2.1 v.2.2)⟩ K') : aheadU P base ops m0 i (o :: rest) ts U K := by
  unfold aheadU
  rw [hg]
  refine ⟨fun _ => ?_, fun e => by cases e⟩
  have hne : ¬ noEdge o k := fun hn => by
    obtain ⟨e, h3, h4⟩ := Array.any_eq_true'.1 he
    simp only [Bool.and_eq_true, beq_iff_eq] at h4
    exact hn e h3 h4.1 h4.2
  have hk' : upd m0 v.1 (.row v.2.1 v.2.2) (base + 16 * i) = .free := by
    rw [upd_ne _ _ (by omega)]; exact hk
  obtain ⟨x, ups, h3, h4, h5⟩ := aop_ext hadd (h (fun x m' => ∃ ups, m' = addU ups (upd m0 v.1 (.row v.2.1 v.2.2)) ∧ oneRow (base + 16 * i) ups ∧ aheadU P base ops m0 (i + 1) rest (putL ts o.dst x) (ups ++ U) K) fun x hx => ⟨[], rfl, .inl rfl, hx⟩)
  obtain ⟨ups', h6, h7, h8⟩ := h3
  have := oneRow_eq h4 h7 hk' h6
  subst this
  exact ⟨x, ups, [v], .inr ⟨v, k, rfl, hv, h1.1, h1.2, hne, hU⟩, h5, h8⟩
theorem aheadU_skip {rest : List Oper} {U : List URow} {K : List PV → List URow → Prop} (hg : gd ops o ts = some false) (h : aheadU P base ops m0 (i + 1) rest (putL ts o.dst (.b undef)) U K) : aheadU P base ops m0 i (o :: rest) ts U K := by
  unfold aheadU
  rw [hg]
  exact ⟨fun e => (by cases e), fun _ => h⟩
theorem aheadU_if {rest : List Oper} {U : List URow} {K : List PV → List URow → Prop} {t : Bool} (hg : gd ops o ts = some t) (h1 : t = true → gd ops o ts = some true → aheadU P base ops m0 i (o :: rest) ts U K) (h2 : t = false → gd ops o ts = some false → aheadU P base ops m0 i (o :: rest) ts U K) : aheadU P base ops m0 i (o :: rest) ts U K := by
  cases t
  · exact h2 rfl hg
  · exact h1 rfl hg
theorem aheadU_nil {K : List PV → List URow → Prop} {U : List URow} (h : K ts U) : aheadU P base ops m0 i [] ts U K := h

theorem vwC_bm {v : Value} {y : PV} (h : vwC P (fun _ => none) mm (.b v) y) : vwC P (fun _ => none) m2 (.b v) y := by
  unfold vwC at *
  cases v with
  | slice ad n c =>
    cases ad with
    | none => cases n <;> cases c <;> cases y <;> exact h
    | some ad => cases y <;> exact h
  | _ => cases y <;> exact h
theorem vwC_ext (h : ExtM mm m2) {x y : PV} (hv : vwC P (fun _ => none) mm x y) : vwC P (fun _ => none) m2 x y := by
  cases x with
  | b v => exact vwC_bm hv
  | ref i o n =>
    unfold vwC at *
    split at hv
    · trivial
    · rename_i hne
      simp only at hv ⊢
      cases hr : mm i with
      | row t' xs => rw [h i (by rw [hr]; simp), hr]; rw [hr] at hv; cases y <;> first | exact hv | exact absurd rfl hne
      | _ => rw [hr] at hv; exact hv.elim
  | _ =>
    unfold vwC at *
    cases y <;> exact hv
theorem All2.imp {r r' : PV → PV → Prop} (h : ∀ x y, r x y → r' x y) : ∀ {xs ys : List PV}, All2 r xs ys → All2 r' xs ys
  | [], [], _ => trivial
  | [], _ :: _, h' => h'.elim
  | _ :: _, [], h' => h'.elim
  | _ :: _, _ :: _, h' => ⟨h _ _ h'.1, All2.imp h h'.2⟩
theorem vwA_ext (h : ExtM mm m2) {x y : PV} (hv : vwA P (fun _ => none) mm x y) : vwA P (fun _ => none) m2 x y := by
  unfold vwA at *
  split at hv
  · exact All2.imp (fun _ _ => vwC_ext h) hv
  · rename_i hne
    cases x <;> first | exact vwC_ext h hv | (cases y <;> first | exact vwC_ext h hv | exact absurd rfl (hne _ _ rfl))
theorem vw_ext (h : ExtM mm m2) {x y : PV} (hv : vw P (fun _ => none) mm x y) : vw P (fun _ => none) m2 x y := by
  unfold vw at *
  split at hv
  · exact All2.imp (fun _ _ => vwA_ext h) hv
  · rename_i hne
    cases x <;> first | exact vwA_ext h hv | (cases y <;> first | exact vwA_ext h hv | exact absurd rfl (hne _ _ rfl))

/-- Rows of a call, under names of their own. -/
def rowsU (k : Nat) : List (TypeId × List PV) → List URow
  | [] => []
  | (t, xs) :: l => (k, t, xs) :: rowsU (k + 1) l
theorem rowsU_add : ∀ (l : List (TypeId × List PV)) (k : Nat) (m : Mem), rowsAt k l m = addU (rowsU k l) m
  | [], _, _ => rfl
  | (t, xs) :: l, k, m => by simp only [rowsAt, rowsU, addU, rowsU_add l]
theorem rowsU_keys : ∀ (l : List (TypeId × List PV)) (k : Nat), ∀ u ∈ rowsU k l, k ≤ u.1 ∧ u.1 < k + l.length
  | [], _, u, h => by cases h
  | (t, xs) :: l, k, u, h => by
    simp only [rowsU, List.mem_cons, List.length_cons] at h ⊢
    rcases h with rfl | h
    · simp
    · have := rowsU_keys l (k + 1) u h
      omega
theorem rowsU_has : ∀ (l : List (TypeId × List PV)) (k q : Nat), q < l.length → ∃ u ∈ rowsU k l, u.1 = k + q
  | [], _, _, h => by simp at h
  | (t, xs) :: l, k, 0, _ => ⟨_, List.mem_cons_self .., rfl⟩
  | (t, xs) :: l, k, q + 1, h => by
    obtain ⟨u, h1, h2⟩ := rowsU_has l (k + 1) q (by simpa using h)
    exact ⟨u, List.mem_cons_of_mem _ h1, by omega⟩
/-- A call by value in such a region. -/
theorem aheadU_call {rest : List Oper} {U : List URow} {K : List PV → List URow → Prop} {f : FuncId} {c : Call} {fo : Operand} {cargs : List PV} {r : PV} {rows : List (TypeId × List PV)} (hg : gd ops o ts = some true) (ho : o.op = .call c) (hc : c.callee = .value fo) (hf : St.eval ⟨ts, m0⟩ fo = .b (.func (.func f) #[] #[])) (hcal : callable P f = true)
    (hok : Ok P f cargs r rows) (hlen : rows.length ≤ 16) (hgo : GOk P r) (hgr : ∀ e ∈ rows, ∀ z ∈ e.2, HOk P z)
    (hcase : (cargs = c.args.toList.map (St.eval ⟨ts, m0⟩) ∧ ∀ x ∈ c.args.toList.map (St.eval ⟨ts, m0⟩), Cln P x) ∨ (All2 (vw P (fun _ => none) m0) (c.args.toList.map (St.eval ⟨ts, m0⟩)) cargs ∧ ownV r = true ∧ (rows.all fun e => e.2.all ownC) = true))
    (h : aheadU P base ops m0 (i + 1) rest (putL ts o.dst (sh (base + 16 * i) r)) (rowsU (base + 16 * i) (impRows (base + 16 * i) rows) ++ U) K) : aheadU P base ops m0 i (o :: rest) ts U K := by
  unfold aheadU
  rw [hg]
  refine ⟨fun _ => ⟨sh (base + 16 * i) r, rowsU (base + 16 * i) (impRows (base + 16 * i) rows), [], .inl rfl, And.intro (fun u hu => ?_) (fun m2 hx hfree K' hK' => ?_), h⟩, fun e => by cases e⟩
  · have := rowsU_keys _ _ u hu
    simp only [impRows, List.length_map] at this
    omega
  · have evl : ∀ (xs : List Operand), xs.map (St.eval ⟨ts, m2⟩) = xs.map (St.eval ⟨ts, m0⟩) := fun xs => List.map_congr_left fun x _ => by cases x <;> rfl
    have hf2 : St.eval ⟨ts, m2⟩ fo = .b (.func (.func f) #[] #[]) := by rw [← hf]; cases fo <;> rfl
    unfold aop
    simp only [ho, hc, hf2]
    refine ⟨hcal, trivial, trivial, _, _, ?_, hK'⟩
    rw [← rowsU_add, evl]
    refine CallM.byval (base + 16 * i) hok (fun q hq => ?_) hgo hgr (hcase.imp id fun hh => ⟨All2.imp (fun _ _ => vw_ext hx) hh.1, hh.2⟩)
    obtain ⟨u, h1, h2⟩ := rowsU_has (impRows (base + 16 * i) rows) (base + 16 * i) q (by simpa [impRows] using hq)
    have := hfree u h1
    rwa [h2] at this

theorem W.drawU {id n : Nat} {l : List Oper} (hf : P.follows .mixedOrders = true) (hB : drawB l.toArray n = true) (hs : l.length < 1000) (hfr : ∀ k, 16384 * (id + 1) ≤ k → k < 16384 * (id + 1) + 16384 → st.mem k = .free)
    (h : aheadU P (16384 * (id + 1)) l.toArray st.mem 0 (l.take n) st.tmps [] fun ts U => aops P (16384 * (id + 1)) l.toArray n (l.drop n) ⟨ts, addU U st.mem⟩ fun s => Q s .normal) : W P R (.region id l.toArray true) st Q :=
  W_any hf (aheadU_any hB (by simpa using hs) hfr h)

end Go.Pv

/- The engine of this session, part 18: steps that are calls by value. -/
set_option linter.unusedVariables false
set_option linter.unusedSimpArgs false
namespace Go.Pv
variable {P : Program} {R : Nat → Prop} {mm m0 m2 : Mem} {st s : St} {o : Oper} {ops : Array Oper} {base i : Nat} {ts : List PV} {Q : St → Exit → Prop}
  {rest : List Oper} {K : St → Prop} {f : FuncId} {c : Call} {fo : Operand} {cargs : List PV} {r : PV} {rows : List (TypeId × List PV)} {v : Value} {U : List URow} {L : List PV → List URow → Prop}

theorem aops_call (hg : gd ops o st.tmps = some true) (ho : o.op = .call c) (hc : c.callee = .value fo) (hf : St.eval st fo = .b (.func (.func f) #[] #[])) (hcal : callable P f = true)
    (hok : Ok P f cargs r rows) (hfree : ∀ q, q < rows.length → st.mem (base + 16 * i + q) = .free) (hgo : GOk P r) (hgr : ∀ e ∈ rows, ∀ z ∈ e.2, HOk P z)
    (hcase : (cargs = c.args.toList.map st.eval ∧ ∀ x ∈ c.args.toList.map st.eval, Cln P x) ∨ (All2 (vw P (fun _ => none) st.mem) (c.args.toList.map st.eval) cargs ∧ ownV r = true ∧ (rows.all fun e => e.2.all ownC) = true))
    (h : aops P base ops (i + 1) rest (put st o.dst (sh (base + 16 * i) r) (rowsAt (base + 16 * i) (impRows (base + 16 * i) rows) st.mem)) K) : aops P base ops i (o :: rest) st K := by
  refine aops_run hg fun K' hK' => ?_
  unfold aop
  simp only [ho, hc, hf]
  exact ⟨hcal, trivial, trivial, _, _, CallM.byval (base + 16 * i) hok hfree hgo hgr hcase, hK' _ _ h⟩
/-- Flat answers; the arguments may have own rows in them, and cargs is how the call sees them. -/
theorem aops_callV (hg : gd ops o st.tmps = some true) (ho : o.op = .call c) (hc : c.callee = .value fo) (hf : St.eval st fo = .b (.func (.func f) #[] #[])) (hcal : callable P f = true)
    (hok : Ok P f cargs (.b v) []) (hcl : All2 (vw P (fun _ => none) st.mem) (c.args.toList.map st.eval) cargs)
    (h : aops P base ops (i + 1) rest (put st o.dst (.b v) st.mem) K) : aops P base ops i (o :: rest) st K :=
  aops_call hg ho hc hf hcal hok (by simp) (HOk.b v) (by simp) (.inr ⟨hcl, rfl, rfl⟩) h
/-- Flat answers; the arguments have no own rows in them. -/
theorem aops_callF (hg : gd ops o st.tmps = some true) (ho : o.op = .call c) (hc : c.callee = .value fo) (hf : St.eval st fo = .b (.func (.func f) #[] #[])) (hcal : callable P f = true)
    (hok : Ok P f (c.args.toList.map st.eval) (.b v) []) (hcl : ∀ x ∈ c.args.toList.map st.eval, Cln P x)
    (h : aops P base ops (i + 1) rest (put st o.dst (.b v) st.mem) K) : aops P base ops i (o :: rest) st K :=
  aops_call hg ho hc hf hcal hok (by simp) (HOk.b v) (by simp) (.inl ⟨rfl, hcl⟩) h
/-- Rows; the arguments have no own rows in them. -/
theorem aops_callR (hg : gd ops o st.tmps = some true) (ho : o.op = .call c) (hc : c.callee = .value fo) (hf : St.eval st fo = .b (.func (.func f) #[] #[])) (hcal : callable P f = true)
    (hok : Ok P f (c.args.toList.map st.eval) r rows) (hcl : ∀ x ∈ c.args.toList.map st.eval, Cln P x) (hfree : ∀ q, q < rows.length → st.mem (base + 16 * i + q) = .free) (hgo : GOk P r) (hgr : ∀ e ∈ rows, ∀ z ∈ e.2, HOk P z)
    (h : aops P base ops (i + 1) rest (put st o.dst (sh (base + 16 * i) r) (rowsAt (base + 16 * i) (impRows (base + 16 * i) rows) st.mem)) K) : aops P base ops i (o :: rest) st K :=
  aops_call hg ho hc hf hcal hok hfree hgo hgr (.inl ⟨rfl, hcl⟩) h
theorem ahead_callF (hg : gd ops o ts = some true) (ho : o.op = .call c) (hc : c.callee = .value fo) (hf : St.eval ⟨ts, m0⟩ fo = .b (.func (.func f) #[] #[])) (hcal : callable P f = true)
    (hok : Ok P f (c.args.toList.map (St.eval ⟨ts, m0⟩)) (.b v) []) (hcl : ∀ x ∈ c.args.toList.map (St.eval ⟨ts, m0⟩), Cln P x)
    (h : aheadU P base ops m0 (i + 1) rest (putL ts o.dst (.b v)) U L) : aheadU P base ops m0 i (o :: rest) ts U L :=
  aheadU_call hg ho hc hf hcal hok (by simp) (HOk.b v) (by simp) (.inl ⟨rfl, hcl⟩) h
theorem ahead_callV (hg : gd ops o ts = some true) (ho : o.op = .call c) (hc : c.callee = .value fo) (hf : St.eval ⟨ts, m0⟩ fo = .b (.func (.func f) #[] #[])) (hcal : callable P f = true)
    (hok : Ok P f cargs (.b v) []) (hcl : All2 (vw P (fun _ => none) m0) (c.args.toList.map (St.eval ⟨ts, m0⟩)) cargs)
    (h : aheadU P base ops m0 (i + 1) rest (putL ts o.dst (.b v)) U L) : aheadU P base ops m0 i (o :: rest) ts U L :=
  aheadU_call hg ho hc hf hcal hok (by simp) (HOk.b v) (by simp) (.inr ⟨hcl, rfl, rfl⟩) h
theorem ahead_callR (hg : gd ops o ts = some true) (ho : o.op = .call c) (hc : c.callee = .value fo) (hf : St.eval ⟨ts, m0⟩ fo = .b (.func (.func f) #[] #[])) (hcal : callable P f = true)
    (hok : Ok P f (c.args.toList.map (St.eval ⟨ts, m0⟩)) r rows) (hcl : ∀ x ∈ c.args.toList.map (St.eval ⟨ts, m0⟩), Cln P x) (hlen : rows.length ≤ 16) (hgo : GOk P r) (hgr : ∀ e ∈ rows, ∀ z ∈ e.2, HOk P z)
    (h : aheadU P base ops m0 (i + 1) rest (putL ts o.dst (sh (base + 16 * i) r)) (rowsU (base + 16 * i) (impRows (base + 16 * i) rows) ++ U) L) : aheadU P base ops m0 i (o :: rest) ts U L :=
  aheadU_call hg ho hc hf hcal hok hlen hgo hgr (.inl ⟨rfl, hcl⟩) h
theorem Cln.agg {xs : List PV} (h : ∀ x ∈ xs, Cln P x) : Cln P (.agg xs) := fun φ φ' D w u hv => by
  cases hv with
  | agg hl hx => exact .agg hl fun j x hj => h x (List.mem_of_getElem? hj) _ _ _ _ _ (hx j x hj)
/-- The loop over a slice of structs. -/
theorem loadPV_drop {α : Type} {g : α → List PV} {l : List α} {k q n : Nat} {z : Option (List Value)} {K : PV → Prop} (hq : ∀ x, (g x).length = q) (h : k < l.length) (hK : K (.agg (g l[k]))) : loadPV ⟨true, q, n, z⟩ ((l.flatMap g).drop (k * q)) K := by
  have key : ∀ (l : List α) (k : Nat) (h : k < l.length), ((l.flatMap g).drop (k * q)).take q = g l[k] ∧ q ≤ ((l.flatMap g).drop (k * q)).length := by
    intro l
    induction l with
    | nil => intro k h; simp at h
    | cons a l ih =>
      intro k h
      cases k with
      | zero =>
        simp only [List.flatMap_cons, Nat.zero_mul, List.drop_zero, List.getElem_cons_zero, List.length_append]
        refine ⟨?_, by rw [hq]; omega⟩
        rw [← hq a]
        exact List.take_left
      | succ k =>
        have e : (k + 1) * q = (g a).length + k * q := by rw [hq, Nat.add_mul]; omega
        simp only [List.flatMap_cons, List.getElem_cons_succ]
        rw [e, ← List.drop_drop, List.drop_left]
        exact ih k (by simpa using h)
  obtain ⟨h1, h2⟩ := key l k h
  rw [loadPV_agg, h1]
  exact ⟨h2, hK⟩

end Go.Pv

/- The engine of this session, part 20: contracts that come from the shelf, as contracts of the engine. -/
set_option linter.unusedVariables false
set_option linter.unusedSimpArgs false
namespace Go.Pv
open Go.RowKit
variable {P : Program} {R : Nat → Prop} {mem : Mem} {f : FuncId} {w w' : World}

theorem RVs_bs {φ : Phi} {D : Nat → Prop} {us : List Value} {vs : Array Value} (h : RVs P φ D w (us.map .b) vs) : vs = us.toArray := by
  have hl : vs.size = us.length := by simpa using h.1
  refine Array.ext (by simpa using hl) fun j h1 h2 => ?_
  have hj : j < us.length := by simpa using h2
  have := h.2 j (.b us[j]) (by simp [hj])
  simp [h1] at this
  simp only [List.getElem_toArray]
  generalize vs[j] = u at this ⊢
  generalize us[j] = q at this ⊢
  cases this
  rfl
/-- Behind a call that leaves the heap below its end as it was. -/
theorem MR.below {D : Nat → Prop} (hD : ∀ b, D b → b < w.heap.size) (hg : GL P D w) (hb : Below w.heap.size w w') : TrW (fun _ => False) noPhi D w noPhi D w' ∧ MR P w (fun _ => False) noPhi D noMem w' := by
  have same : ∀ b : Nat, D b → w'.heap[b]? = w.heap[b]? := fun b h => hb.block b (hD b h)
  refine ⟨⟨fun _ _ h => h.elim, fun _ h => h, same, fun b cs t h => ⟨cs, (hb.block b (lt_of_heap h)).trans h, rfl⟩, hb.size, fun _ h => .inl h, fun i b h => by cases h⟩,
    ⟨hb.os, hb.tape, hb.output, hb.size, fun b h _ => hb.block b h, fun _ _ _ h => (by cases h), fun _ _ _ _ _ _ _ h => (by cases h), fun b h => Nat.lt_of_lt_of_le (hD b h) hb.size, fun _ _ => rfl, hg.tr (fun _ h => h) same⟩⟩
theorem Ok.below {us : List Value} {r : PV} (h : ∀ w : World, Gstd P w → Calls P f us.toArray w fun e w' => ∃ v, e = .returned v ∧ Below w.heap.size w w' ∧ ∀ (φ : Phi) (D : Nat → Prop), RV P φ D w' r v) : Ok P f (us.map .b) r [] := by
  intro D w vs hD hg hv
  rw [RVs_bs hv]
  refine (h w hg.std).mono fun e w' ⟨v, he, hb, hr⟩ => ?_
  obtain ⟨h1, h2⟩ := MR.below hD hg hb
  exact ⟨v, noPhi, D, he, h1, h2, hr _ _⟩
/-- A new row of cells. -/
theorem Ok.made {us : List Value} {n : Nat} {t : TypeId} {xs : List PV} (hn : n ≤ maxLen) (h : ∀ w : World, Gstd P w → Calls P f us.toArray w fun e w' => ∃ (c : Nat) (cs : Array Value), e = .returned (.slice (some ⟨w.heap.size, 0, none⟩) n c) ∧ n ≤ c ∧ c ≤ maxLen ∧ c * P.cellsOf t ≤ cs.size ∧ xs.length ≤ cs.size ∧ w' = w.alloc (Obj.cells cs t) ∧ ∀ (j : Nat) (x : PV), xs[j]? = some x → ∀ (φ : Phi) (D : Nat → Prop), RV P φ D w x (cs.getD j undef)) : Ok P f (us.map .b) (.ref 0 0 n) [(t, xs)] := by
  intro D w vs hD hg hv
  rw [RVs_bs hv]
  refine (h w hg.std).mono fun e w' ⟨c, cs, he, hc, hcm, hcs, hl, hw, hx⟩ => ?_
  subst hw
  have hm := MR.start (P := P) hD hg
  have ha := hm.alloc (i := 0) rfl t xs cs hl fun j x hj => hx j x hj _ _
  have ht := Tr.alloc (o := Obj.cells cs t) hm (i := 0) rfl
  refine ⟨_, _, D, he, ⟨fun _ _ h => h.elim, ht.dd, ht.same, ht.shape, ht.size, ht.dnew, ht.pnew⟩, ha, ?_⟩
  exact .ref (by simp [setPhi]) hc fun _ => ⟨hcm, cs, t, heap_alloc_new w _, hcs⟩
/-- A call whose one slice is an own row of texts. -/
theorem CallM.strs {i n : Nat} {t : TypeId} {l : List ByteArray} {sep : ByteArray} {v : Value} (hi : mem i = .row t (l.map vS)) (hn : n = l.length) (hn0 : 0 < n)
    (h : ∀ (w : World) (bk c : Nat), Gstd P w → (∀ (j : Nat) x, l[j]? = some x → w.cell? ⟨bk, 0 + j, none⟩ = some (.string x)) → bk < w.heap.size → l.length ≤ c → Calls P f #[.slice (some ⟨bk, 0, none⟩) l.length c, .string sep] w fun e w' => e = .returned v ∧ Below w.heap.size w w') :
    CallM P f [.ref i 0 n, .b (.string sep)] mem fun y m => y = .b v ∧ m = mem := by
  subst hn
  intro w0 S0 φ D w vs hm ha
  have e0 := ha.2 0 _ rfl
  have e1 := ha.2 1 _ rfl
  have hs := ha.1
  simp at hs
  obtain ⟨a0, a1, rfl⟩ : ∃ a0 a1, vs = #[a0, a1] := ⟨vs[0], vs[1], Array.ext (by simpa using hs) fun j h1 h2 => by
    have : j < 2 := by omega
    rcases j with _ | _ | j <;> simp_all
    omega⟩
  simp at e0 e1
  cases e1
  generalize hL : l.length = L at e0 hn0
  cases e0 with
  | nil => omega
  | ref0 => omega
  | @ref _ _ _ bl c hb hlc hr =>
    subst hL
    obtain ⟨cs, hra⟩ := hm.rowAt hi hb
    refine (h w bl c hm.gl.std (fun j x hj => ?_) (lt_of_heap hra.heap) hlc).mono fun e w' ⟨he, hbl⟩ => ?_
    · have := hra.cells j (vS x) (by simp [hj])
      have hlt : j < cs.size := by have h1 := hra.len; have h2 := (List.getElem?_eq_some_iff.1 hj).1; simp at h1; omega
      rw [cell_of_row w bl _ cs t (0, 0) hra.heap]
      simp [hlt] at this ⊢
      generalize cs[j] = u at this
      cases this
      rfl
    · have same : ∀ b : Nat, b < w.heap.size → w'.heap[b]? = w.heap[b]? := fun b h => hbl.block b h
      have htr : Tr φ D w φ D w' := ⟨fun _ _ _ h => h, fun _ h => h, fun b h => same b (hm.dlt b h), fun b cs t h => ⟨cs, (same b (lt_of_heap h)).trans h, rfl⟩, hbl.size, fun _ h => .inl h, fun i b h => .inr ⟨i, h⟩⟩
      refine ⟨v, .b v, mem, φ, D, he, ⟨rfl, rfl⟩, htr, ?_, .b v⟩
      refine ⟨hbl.os.trans hm.os, hbl.tape.trans hm.tape, hbl.output.trans hm.output, Nat.le_trans hm.size hbl.size, fun b h1 h2 => (same b (Nat.lt_of_lt_of_le h1 hm.size)).trans (hm.keep b h1 h2), fun i t xs hi => ?_, hm.inj, fun b h => Nat.lt_of_lt_of_le (hm.dlt b h) hbl.size, hm.free, hm.gl.tr (fun _ h => h) htr.same⟩
      rcases hm.row i t xs hi with h0 | ⟨b2, c2, h2⟩
      · exact .inl h0
      · exact .inr ⟨b2, c2, h2.phi, (same _ (lt_of_heap h2.heap)).trans h2.heap, h2.len, fun j x hx => (h2.cells j x hx).mono htr, h2.own, h2.new⟩
section
variable {st : St} {o : Oper} {ops : Array Oper} {base i : Nat} {ts : List PV} {m0 m' : Mem} {rest : List Oper} {K : St → Prop} {c : Call} {fo : Operand} {x : PV} {U : List URow} {L : List PV → List URow → Prop}
/-- Calls whose arguments are own rows. -/
theorem aops_callM (hg : gd ops o st.tmps = some true) (ho : o.op = .call c) (hc : c.callee = .value fo) (hf : St.eval st fo = .b (.func (.func f) #[] #[])) (hcal : callable P f = true)
    (hM : CallM P f (c.args.toList.map st.eval) st.mem fun y m => y = x ∧ m = m') (h : aops P base ops (i + 1) rest (put st o.dst x m') K) : aops P base ops i (o :: rest) st K := by
  refine aops_run hg fun K' hK' => ?_
  unfold aop
  simp only [ho, hc, hf]
  exact ⟨hcal, trivial, trivial, _, _, hM, hK' _ _ h⟩
theorem ahead_callM (hg : gd ops o ts = some true) (ho : o.op = .call c) (hc : c.callee = .value fo) (hf : St.eval ⟨ts, m0⟩ fo = .b (.func (.func f) #[] #[])) (hcal : callable P f = true)
    (hM : ∀ m2, ExtM m0 m2 → CallM P f (c.args.toList.map (St.eval ⟨ts, m0⟩)) m2 fun y m => y = x ∧ m = m2) (h : aheadU P base ops m0 (i + 1) rest (putL ts o.dst x) U L) : aheadU P base ops m0 i (o :: rest) ts U L := by
  unfold aheadU
  rw [hg]
  refine ⟨fun _ => ⟨x, [], [], .inl rfl, And.intro (fun u hu => by cases hu) (fun m2 hx hfree K' hK' => ?_), h⟩, fun e => by cases e⟩
  have evl : ∀ (xs : List Operand), xs.map (St.eval ⟨ts, m2⟩) = xs.map (St.eval ⟨ts, m0⟩) := fun xs => List.map_congr_left fun x _ => by cases x <;> rfl
  have hf2 : St.eval ⟨ts, m2⟩ fo = .b (.func (.func f) #[] #[]) := by rw [← hf]; cases fo <;> rfl
  unfold aop
  simp only [ho, hc, hf2]
  refine ⟨hcal, trivial, trivial, _, _, ?_, hK'⟩
  rw [evl]
  exact hM m2 hx
end
end Go.Pv
