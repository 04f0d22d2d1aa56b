/- The engine of this session, part 6: slices that are made and appended to, the length, conversions. -/
import Derived.Test.YtneapbfomhalpaaGreatDoorQA
import Derived.Great.BuildSlice
import Derived.StillTail
set_option linter.unusedVariables false
set_option linter.unusedSimpArgs false
namespace Go.Pv
open Go.RowKit
variable {P : Program} {w0 w w' : World} {S0 : Nat → Prop} {φ φ' : Phi} {D D' : Nat → Prop} {mem : Mem} {st : St} {a : Act} {o : Oper}

def zrep : Nat → List PV → List PV
  | 0, _ => []
  | n + 1, z => z ++ zrep n z
theorem zrep_length : ∀ (n : Nat) (z : List PV), (zrep n z).length = n * z.length
  | 0, z => by simp [zrep]
  | n + 1, z => by simp [zrep, zrep_length n z, Nat.add_mul, Nat.add_comm]
theorem zrep_get : ∀ (n : Nat) (z : List PV) (j : Nat), j < n * z.length → (zrep n z)[j]? = z[j % z.length]?
  | 0, z, j, h => by simp at h
  | n + 1, z, j, h => by
    simp only [zrep]
    by_cases hj : j < z.length
    · rw [List.getElem?_append_left hj, Nat.mod_eq_of_lt hj]
    · have hge : z.length ≤ j := by omega
      rw [List.getElem?_append_right hge]
      have : j - z.length < n * z.length := by rw [Nat.add_mul] at h; omega
      rw [zrep_get n z _ this, Nat.mod_eq_sub_mod hge]
theorem zrep_one (n : Nat) (x : PV) : zrep n [x] = List.replicate n x := by
  induction n with
  | zero => rfl
  | succ n ih => simp [zrep, ih, List.replicate_succ]
theorem zrep_made (P : Program) (φ : Phi) (D : Nat → Prop) (w : World) (z : Array Value) (n m : Nat) (hz : z.size = m) : RVs P φ D w (zrep n (z.toList.map .b)) (madeCells z (n * m)) := by
  subst hz
  refine ⟨by simp [madeCells, zrep_length], fun j x hj => ?_⟩
  have hlt : j < n * z.size := by
    have := (List.getElem?_eq_some_iff.1 hj).1
    simpa [zrep_length] using this
  rw [zrep_get _ _ _ (by simpa using hlt)] at hj
  simp at hj
  obtain ⟨u, hu, rfl⟩ := hj
  have hpos : 0 < z.size := by
    rcases Nat.eq_zero_or_pos z.size with h | h
    · rw [h] at hlt; simp at hlt
    · exact h
  have hm : j % z.size < z.size := Nat.mod_lt _ hpos
  have : (madeCells z (n * z.size)).getD j undef = u := by
    have hg : z[j % z.size]! = u := by rw [getElem!_pos z _ hm]; exact Option.some.inj ((Array.getElem?_eq_getElem hm).symm.trans hu)
    simp [madeCells, hlt, hg]
  rw [this]
  exact .b u

def aBuildSlice (P : Program) (key : Nat) (t : TypeId) (len : Nat) (parts : List (Nat × PV)) (mem : Mem) (K : PV → Mem → Prop) : Prop :=
  match selem P t with
  | some (e, T) => (match T.zero with
    | some z => z.length = T.size ∧ len * T.size ≤ 16777216 ∧ len ≤ maxLen ∧ (match fillPV (fun i => some (i * T.size, T.size)) (zrep len (z.map .b)) parts with
      | some out => mem key = .free ∧ K (.ref key 0 len) (upd mem key (.row e out))
      | none => False)
    | none => False)
  | none => False
theorem buildSlice_sound {key : Nat} {t : TypeId} {len : Nat} {parts : List (Nat × PV)} {vparts : List (Nat × Value)} (hm : MR P w0 S0 φ D mem w) (hl : vparts.length = parts.length) (hp : ∀ (j : Nat) (p : Nat × PV) (q : Nat × Value), parts[j]? = some p → vparts[j]? = some q → q.1 = p.1 ∧ RV P φ D w p.2 q.2)
    {K : PV → Mem → Prop} (h : aBuildSlice P key t len parts mem K) : ∃ r y mem' φ' w', (Instr.buildSlice t len vparts.toArray).run P w = .ok r w' ∧ Tr φ D w φ' D w' ∧ MR P w0 S0 φ' D mem' w' ∧ RV P φ' D w' y r ∧ K y mem' := by
  unfold aBuildSlice at h
  split at h
  · rename_i e T hs
    obtain ⟨hu, hT⟩ := selem_some hs
    split at h
    · rename_i z hz
      obtain ⟨hzl, hsm, hml, h⟩ := h
      split at h
      · rename_i out hf
        obtain ⟨hk, hK⟩ := h
        obtain ⟨i, dsc, hi, _, _, hsz, _, hzz⟩ := tinfo_some hT
        cases hiz : i.zero with
        | none => rw [hiz] at hzz; rw [hzz] at hz; cases hz
        | some zv =>
          rw [hiz] at hzz
          rw [hzz] at hz
          simp at hz
          subst hz
          have hzs : zv.cells.size = T.size := by simpa using hzl
          have hcells := zrep_made P φ D w zv.cells len T.size hzs
          obtain ⟨outv, h3, h4⟩ := fill_sound (P := P) (φ := φ) (D := D) (w := w) _ parts vparts _ _ out hcells hl hp hf
          have hrun : (Instr.buildSlice t len vparts.toArray).run P w = .ok (.slice (some ⟨w.heap.size, 0, none⟩) len len) (w.alloc (Obj.cells outv e)) := by
            by_cases h0 : len * i.size = 0
            · have hme : madeCells zv.cells (len * T.size) = #[] := by rw [hsz, h0]; simp [madeCells]
              rw [hme] at h3
              have hsm' : ¬ (len * i.size > 2 ^ 24) := by omega
              simp only [Instr.buildSlice, Sem.run_bind, run_underlying hu, Result.andThen_ok, sizeOf, typeInfo, run_program, hi, Sem.run_pure]
              rw [hsz] at h3
              simp [h0, newRow, Array.range_zero'] at h3 ⊢
              simp [h3]
            · have hsm' : ¬ len * i.size > 2 ^ 24 := by rw [← hsz]; omega
              exact run_buildSlice w t e len vparts.toArray outv i zv hu hi hiz hsm' h0 (by rw [hsz] at h3; exact h3)
          obtain ⟨h5, h6, h7⟩ := new_sound (e := e) hm hk h4
          refine ⟨_, _, _, _, _, hrun, h5, h6, .ref h7 (Nat.le_refl _) (fun _ => ⟨hml, outv, e, heap_alloc_new w _, ?_⟩), hK⟩
          have hout : out.length = len * T.size := by
            have : ∀ (parts : List (Nat × PV)) (cells out : List PV), fillPV (fun i => some (i * T.size, T.size)) cells parts = some out → out.length = cells.length := by
              intro parts
              induction parts with
              | nil => intro cells out h; simp [fillPV] at h; rw [h]
              | cons p ps ih =>
                intro cells out h
                simp only [fillPV, Option.bind_eq_some_iff] at h
                obtain ⟨q, _, ys, _, h⟩ := h
                split at h
                · rw [ih _ _ h, storeL_length]
                · cases h
            rw [this _ _ _ hf, zrep_length]
            simp [hzs]
          rw [cellsOf_eq hT, h4.1, hout]
          exact Nat.le_refl _
      · exact h.elim
    · exact h.elim
  · exact h.elim

def aMake (P : Program) (key : Nat) (t : TypeId) (l c : PV) (mem : Mem) (K : PV → Mem → Prop) : Prop :=
  match selem P t, l, c with
  | some (e, T), .b (.int _ n), .b (.int _ n') => (match T.zero with
    | some z => n' = n ∧ 0 ≤ n ∧ z.length = T.size ∧ n ≤ 9223372036854775807 ∧ (T.bytes : Int) * n ≤ 281474976710656 ∧ mem key = .free ∧ K (.ref key 0 n.toNat) (upd mem key (.row e (zrep n.toNat (z.map .b))))
    | none => False)
  | _, _, _ => False
theorem make_sound {key : Nat} {t : TypeId} {l c : PV} {vl vc : Value} (hm : MR P w0 S0 φ D mem w) (hl : RV P φ D w l vl) (hc : RV P φ D w c vc)
    {K : PV → Mem → Prop} (h : aMake P key t l c mem K) : ∃ r y mem' φ' w', (Instr.makeSlice t vl vc).run P w = .ok r w' ∧ Tr φ D w φ' D w' ∧ MR P w0 S0 φ' D mem' w' ∧ RV P φ' D w' y r ∧ K y mem' := by
  unfold aMake at h
  split at h
  · rename_i e T k n k' n' hs
    obtain ⟨hu, hT⟩ := selem_some hs
    split at h
    · rename_i z hz
      obtain ⟨rfl, h0, hzl, h63, hby, hk, hK⟩ := h
      obtain ⟨i, dsc, hi, _, _, hsz, hbb, hzz⟩ := tinfo_some hT
      cases hiz : i.zero with
      | none => rw [hiz] at hzz; rw [hzz] at hz; cases hz
      | some zv =>
        rw [hiz] at hzz
        rw [hzz] at hz
        simp at hz
        subst hz
        cases hl
        cases hc
        have hzs : zv.cells.size = T.size := by simpa using hzl
        have hrun := run_make (P := P) w t e i zv hu hi hiz k k' n' n' h0 (Int.le_refl _) (by rw [← hbb]; exact hby) h63
        have hcells := zrep_made P φ D w zv.cells n'.toNat T.size hzs
        rw [hsz] at hcells
        obtain ⟨h5, h6, h7⟩ := new_sound (e := e) hm hk hcells
        refine ⟨_, _, _, _, _, hrun, h5, h6, .ref h7 (Nat.le_refl _) (fun _ => ⟨by simp only [maxLen]; omega, _, e, heap_alloc_new w _, ?_⟩), hK⟩
        rw [cellsOf_eq hT, hsz, size_madeCells]
        exact Nat.le_refl _
    · exact h.elim
  · exact h.elim

/-- The cells that a slice or a string brings to an append. -/
def aSrc (mem : Mem) (sz : Nat) (x : PV) (K : Nat → List PV → Prop) : Prop :=
  match x with
  | .ref j o m => (match mem j with | .row _ xs => o + m * sz ≤ xs.length ∧ K m ((xs.drop o).take (m * sz)) | _ => False)
  | .val m xs => m * sz ≤ xs.length ∧ K m (xs.take (m * sz))
  | .b (.slice none 0 0) => K 0 []
  | .b (.string s) => K s.size (s.data.toList.map fun b => .b (.int .u8 b.toNat))
  | _ => False
theorem firstCells_ok {sz m : Nat} {a : Option Addr} {c : Nat} {news : List Value} (hl : news.length = m * sz) (h : ∀ ad, a = some ad → ∀ j u, news[j]? = some u → w.cell? (ad.add j) = some u) (h0 : a = none → m = 0) :
    (Builtin.firstCells sz m (.slice a m c)).run P w = .ok news.toArray w := by
  cases a with
  | none =>
    have := h0 rfl
    subst this
    simp at hl
    subst hl
    simp [Builtin.firstCells]
  | some ad =>
    simp only [Builtin.firstCells]
    rw [← hl]
    exact run_loadCells_list w ad news (h ad rfl)
theorem src_sound {sz : Nat} {x : PV} {v : Value} (hm : MR P w0 S0 φ D mem w) (hx : RV P φ D w x v) {K : Nat → List PV → Prop} (h : aSrc mem sz x K) (hs1 : (∃ s, v = .string s) → sz = 1) :
    ∃ (m : Nat) (ys : List PV) (news : List Value), K m ys ∧ (Builtin.lenOf v).run P = (fun w => .ok m w) ∧ ys.length = m * sz ∧ news.length = ys.length ∧ (∀ j y, ys[j]? = some y → RV P φ D w y (news.getD j undef)) ∧ (∀ w', w'.heap = w.heap → (Builtin.firstCells sz m v).run P w' = .ok news.toArray w') := by
  have cellsame : ∀ {w' : World}, w'.heap = w.heap → ∀ ad, w'.cell? ad = w.cell? ad := fun hh ad => by simp [World.cell?, hh]
  unfold aSrc at h
  split at h
  · rename_i j off m
    split at h
    · rename_i t' xs hi
      obtain ⟨hfit, hK⟩ := h
      have hyl : ((xs.drop off).take (m * sz)).length = m * sz := by simp; omega
      have nil : ∀ (a : Option Addr) (c : Nat), m = 0 → (Builtin.lenOf (.slice a m c)).run P = (fun w => .ok m w) ∧ ∀ w', w'.heap = w.heap → (Builtin.firstCells sz m (.slice a m c)).run P w' = .ok ([] : List Value).toArray w' := fun a c h0 => by
        subst h0
        refine ⟨by funext w; simp [Builtin.lenOf], fun w' _ => ?_⟩
        cases a <;> simp [Builtin.firstCells, loadCells, loadCellsFrom]
      cases hx with
      | @ref _ _ _ bl c hb hn hr =>
        obtain ⟨cs, hrow⟩ := hm.rowAt hi hb
        refine ⟨m, _, (cs.toList.drop off).take (m * sz), hK, by funext w; simp [Builtin.lenOf], hyl, ?_, fun j y hj => ?_, fun w' hw' => ?_⟩
        · have := hrow.len; simp; omega
        · rw [List.getElem?_take] at hj
          split at hj
          · rename_i hlt
            rw [List.getElem?_drop] at hj
            have := hrow.cells _ _ hj
            rw [Array.getD_eq_getD_getElem?] at this
            simp only [List.getD_eq_getElem?_getD, List.getElem?_take, hlt, if_true, List.getElem?_drop]
            simpa using this
          · cases hj
        · refine firstCells_ok (by have := hrow.len; simp; omega) (fun ad e j u hu => ?_) (fun e => by cases e)
          cases e
          rw [cellsame hw', cell_at hrow.heap]
          rw [List.getElem?_take] at hu
          split at hu
          · rw [List.getElem?_drop] at hu; simpa using hu
          · cases hu
      | nil =>
        obtain ⟨h1, h2⟩ := nil none 0 rfl
        exact ⟨0, _, [], hK, h1, by simp, by simp, by simp, h2⟩
      | @ref0 _ _ c ad hne =>
        obtain ⟨h1, h2⟩ := nil ad c rfl
        exact ⟨0, _, [], hK, h1, by simp, by simp, by simp, h2⟩
    · exact h.elim
  · rename_i m xs
    obtain ⟨hfit, hK⟩ := h
    have hyl : (xs.take (m * sz)).length = m * sz := by simp; omega
    cases hx with
    | @val _ c _ ad f hn hd hc hx =>
      refine ⟨m, _, (List.range (m * sz)).map f, hK, by funext w; simp [Builtin.lenOf], hyl, by simp; omega, fun j y hj => ?_, fun w' hw' => ?_⟩
      · rw [List.getElem?_take] at hj
        split at hj
        · rename_i hlt
          have := hx j y hj
          simpa [List.getD_eq_getElem?_getD, hlt] using this
        · cases hj
      · refine firstCells_ok (by simp) (fun ad' e j u hu => ?_) (fun e => by cases e)
        cases e
        have hlt : j < m * sz := by have := (List.getElem?_eq_some_iff.1 hu).1; simpa using this
        have hu' : f j = u := by rw [List.getElem?_map, List.getElem?_range hlt] at hu; simpa using hu
        rw [cellsame hw', ← hu']
        exact hc j _ (List.getElem?_eq_getElem (by omega))
    | @val0 _ ad c =>
      refine ⟨0, _, [], hK, by funext w; simp [Builtin.lenOf], by simp, by simp, by simp, fun w' _ => ?_⟩
      cases ad <;> simp [Builtin.firstCells, loadCells, loadCellsFrom]
  · cases hx
    exact ⟨0, [], [], h, by funext w; simp [Builtin.lenOf], by simp, rfl, by simp, fun w' _ => by simp [Builtin.firstCells]⟩
  · rename_i s
    cases hx
    have := hs1 ⟨s, rfl⟩
    subst this
    refine ⟨s.size, _, s.data.toList.map fun b => .int .u8 b.toNat, h, by funext w; simp [Builtin.lenOf], ?_, by simp, fun j y hj => ?_, fun w' _ => ?_⟩
    · simp
    · simp at hj
      obtain ⟨q, hq, rfl⟩ := hj
      simp [List.getD_eq_getElem?_getD, hq]
      exact .b _
    · exact Lib.run_firstCells_string (P := P) w' 1 s
  · exact h.elim


/-- The row that is appended to. -/
def aDst (mem : Mem) (e : TypeId) (sz : Nat) (x : PV) (K : Mem → Nat → List PV → Prop) : Prop :=
  match x with
  | .ref i 0 n => (match mem i with | .row e' xs => e' = e ∧ xs.length = n * sz ∧ K (upd mem i .dead) n xs | _ => False)
  | .b (.slice none 0 0) => K mem 0 []
  | _ => False
def appOk (P : Program) (t u : TypeId) : Prop := t = u ∨ P.underlying u = some .string
def aAppend (P : Program) (key : Nat) (t u : TypeId) (x y : PV) (mem : Mem) (K : PV → Mem → Prop) : Prop :=
  match selem P t with
  | some (e, T) => appOk P t u ∧ 0 < T.size ∧ (T.zero.map (·.length)) = some T.size ∧ ((∃ s, y = .b (.string s)) → T.size = 1) ∧ aDst mem e T.size x fun mem' n xs => aSrc mem T.size y fun m ys =>
      ys.all storable = true ∧ n + m ≤ maxLen ∧ (n + m) * T.bytes ≤ 140737488355328 ∧ mem key = .free ∧ K (.ref key 0 (n + m)) (upd mem' key (.row e (xs ++ ys)))
  | none => False

theorem append_sound {key : Nat} {t u ty : TypeId} {x y : PV} {vx vy : Value} (hm : MR P w0 S0 φ D mem w) (hx : RV P φ D w x vx) (hy : RV P φ D w y vy)
    {K : PV → Mem → Prop} (h : aAppend P key t u x y mem K) : ∃ r z mem' φ' w', (Builtin.append_ #[t, u] ty #[vx, vy]).run P w = .ok r w' ∧ Tr φ D w φ' D w' ∧ MR P w0 S0 φ' D mem' w' ∧ RV P φ' D w' z r ∧ K z mem' := by
  unfold aAppend at h
  split at h
  · rename_i e T hs
    obtain ⟨hu, hT⟩ := selem_some hs
    obtain ⟨i, dsc, hi, hue, _, hsz, hbb, hzz⟩ := tinfo_some hT
    obtain ⟨happ, hpos, hzl, hstr, h⟩ := h
    obtain ⟨zv, hiz, hzs⟩ : ∃ zv, i.zero = some zv ∧ zv.cells.size = T.size := by
      cases hiz : i.zero with
      | none => rw [hzz, hiz] at hzl; simp at hzl
      | some zv => rw [hzz, hiz] at hzl; simp at hzl; exact ⟨zv, rfl, hzl⟩
    -- what is not a whole number
    have hnz : ∀ w : World, ((underlying u).run P w = .ok (.slice e) w) ∨ ((underlying u).run P w = .ok .string w) := fun w => by
      rcases happ with rfl | hs
      · exact .inl (run_underlying hu w)
      · exact .inr (run_underlying hs w)
    have hvs : (∃ s, vy = .string s) → T.size = 1 := fun ⟨s, hs⟩ => by
      subst hs
      cases hy with
      | b => exact hstr ⟨s, rfl⟩
      | any => unfold aDst at h; split at h <;> first | exact h.elim | (split at h <;> first | exact h.elim | (obtain ⟨_, _, h⟩ := h; exact h.elim)) | exact h.elim
    have dst : ∃ (n : Nat) (xs : List PV) (mem' : Mem) (base : Option Addr) (cap : Nat), vx = .slice base n cap ∧ n ≤ cap ∧ xs.length = n * T.size ∧ (aSrc mem T.size y fun m ys =>
        ys.all storable = true ∧ n + m ≤ maxLen ∧ (n + m) * T.bytes ≤ 140737488355328 ∧ mem key = .free ∧ K (.ref key 0 (n + m)) (upd mem' key (.row e (xs ++ ys)))) ∧
        ((base = none ∧ cap = 0 ∧ n = 0 ∧ (mem' = mem ∨ ∃ i t, mem i = .row t [] ∧ mem' = upd mem i .dead)) ∨ ∃ i bl cs, base = some ⟨bl, 0, none⟩ ∧ mem i = .row e xs ∧ mem' = upd mem i .dead ∧ RowAt P w0 S0 φ D w i e xs bl cs ∧ cap ≤ maxLen ∧ cap * T.size ≤ cs.size) := by
      unfold aDst at h
      split at h
      · rename_i i' n
        split at h
        · rename_i e' xs hrow
          obtain ⟨rfl, hxl, h⟩ := h
          cases hx with
          | @ref _ _ _ bl c hb hn hr =>
            obtain ⟨cs, hra⟩ := hm.rowAt hrow hb
            obtain ⟨h1, cs', t', h2, h3⟩ := hr rfl
            rw [hra.heap] at h2
            cases h2
            exact ⟨n, xs, _, _, c, rfl, hn, hxl, h, .inr ⟨i', bl, cs, rfl, hrow, rfl, hra, h1, by rw [← cellsOf_eq hT]; exact h3⟩⟩
          | nil =>
            have hx0 : xs = [] := List.eq_nil_of_length_eq_zero (by simpa using hxl)
            subst hx0
            exact ⟨0, [], _, none, 0, rfl, Nat.le_refl _, by simp, h, .inl ⟨rfl, rfl, rfl, .inr ⟨i', _, hrow, rfl⟩⟩⟩
          | ref0 hne => exact absurd rfl hne
        · exact h.elim
      · cases hx
        exact ⟨0, [], mem, none, 0, rfl, Nat.le_refl _, by simp, h, .inl ⟨rfl, rfl, rfl, .inl rfl⟩⟩
      · exact h.elim
    obtain ⟨n, xs, mem', base, cap, rfl, hnc, hxl, hsrc, hbase⟩ := dst
    obtain ⟨m, ys, news, ⟨hst, hml, hby, hk, hK⟩, hlen, hyl, hnl, hyr, hfc⟩ := src_sound hm hy hsrc hvs
    have hlen' : ∀ w, (Builtin.lenOf vy).run P w = .ok m w := fun w => congrFun hlen w
    have one : ∀ v ∈ news, v.oneCell' = true := fun v hv => by
      obtain ⟨j, hj⟩ := List.mem_iff_getElem?.1 hv
      have hjl : j < ys.length := by have := (List.getElem?_eq_some_iff.1 hj).1; omega
      have := hyr j _ (List.getElem?_eq_getElem hjl)
      rw [List.getD_eq_getElem?_getD, hj] at this
      exact storable_spec this (List.all_eq_true.1 hst _ (List.getElem_mem hjl))
    have hfc' : ∀ w', w'.heap = w.heap → (Builtin.firstCells i.size m vy).run P w' = .ok news.toArray w' := fun w' h => by rw [← hsz]; exact hfc w' h
    -- what was appended to is no longer spoken of
    have hkill : ∀ (φ2 : Phi) (w2 : World) (r : Slot), MR P w0 S0 φ2 D (upd mem key r) w2 → MR P w0 S0 φ2 D (upd mem' key r) w2 := fun φ2 w2 r h2 => by
      have go : ∀ j t' xs', mem j = .row t' xs' → mem' = upd mem j .dead → MR P w0 S0 φ2 D (upd mem' key r) w2 := fun j t' xs' hj e => by
        have hne : key ≠ j := fun e => by subst e; rw [hk] at hj; cases hj
        rw [e, ← upd_comm mem hne]
        exact h2.kill (i := j) (t := t') (xs := xs') (by rw [upd_ne _ _ (Ne.symm hne)]; exact hj)
      rcases hbase with ⟨_, _, _, rfl | ⟨j, t', hj, e⟩⟩ | ⟨j, bl, cs, _, hj, e, _⟩
      · exact h2
      · exact go j t' _ hj e
      · exact go j _ _ hj e
    by_cases hroom : n + m ≤ cap
    · have hrun : ∀ (a : Addr) (w' : World), base = some a → (storeCells (a.add (n * i.size)) news).run P w = .ok () w' → (Builtin.append_ #[t, u] ty #[.slice base n cap, vy]).run P w = .ok (.slice base (n + m) cap) w' := fun a w' ha hst => by
        subst ha
        rcases hnz w with hd | hd <;> simp [Builtin.append_, run_underlying hu, hd, sizeOf, typeInfo, hi, hlen', hroom, hfc' w rfl, hst]
      rcases hbase with ⟨rfl, rfl, rfl, _⟩ | ⟨j, bl, cs, rfl, hj, hmem', hra, hcm, hfit⟩
      · have hm0 : m = 0 := by omega
        subst hm0
        have hy0 : ys = [] := List.eq_nil_of_length_eq_zero (by simpa using hyl)
        have hx0 : xs = [] := List.eq_nil_of_length_eq_zero (by simpa using hxl)
        subst hy0; subst hx0
        have hn0 : news = [] := List.eq_nil_of_length_eq_zero (by simpa using hnl)
        subst hn0
        refine ⟨.slice none 0 0, _, _, φ, w, ?_, Tr.refl .., hkill _ _ _ (hm.none e hk), .nil, hK⟩
        rcases hnz w with hd | hd <;> simp [Builtin.append_, run_underlying hu, hd, sizeOf, typeInfo, hi, hlen', hfc' w rfl]
      · have hfit2 : n * T.size + news.length ≤ cs.size := by
          rw [hnl, hyl, ← Nat.add_mul]
          exact Nat.le_trans (Nat.mul_le_mul_right _ hroom) hfit
        obtain ⟨w', cs', h2, h3, h4, h5, h6, h7, h8, h9, h10⟩ := run_storeCells_row P bl e news (n * T.size) 0 cs w hra.heap (by omega) one
        have hw := hrun ⟨bl, 0, none⟩ w' rfl (by rw [addr_add, Nat.zero_add, ← hsz]; exact h2)
        have htr := Tr.write hm hra h4 h3 h5 h9
        have hmr := MR.write (ys := xs ++ ys) hm hj hra h4 h6 h7 h8 h9 h3 h5 (by rw [h4, List.length_append, hxl, ← hnl]; exact hfit2) (fun q y hq => by
          rw [h10 q]
          by_cases hql : q < xs.length
          · rw [List.getElem?_append_left hql] at hq
            rw [if_neg (by omega)]
            exact hra.cells q y hq
          · rw [List.getElem?_append_right (by omega)] at hq
            have : q - xs.length < ys.length := (List.getElem?_eq_some_iff.1 hq).1
            rw [if_pos (by omega)]
            have := hyr _ _ hq
            rw [hxl] at this
            simpa using this)
        have hne : key ≠ j := fun e => by subst e; rw [hk] at hj; cases hj
        obtain ⟨ht2, hm2⟩ := hmr.move (upd_same ..) (k := key) (by rw [upd_ne _ _ hne]; exact hk) hra.phi
        rw [upd_upd] at hm2
        subst hmem'
        refine ⟨_, _, _, _, w', hw, htr.trans ht2, hm2, .ref (by simp [setPhi]) hroom (fun _ => ⟨hcm, cs', e, h3, by rw [cellsOf_eq hT, h4]; exact hfit⟩), hK⟩
    · -- a new row
      have hge := grownCap_ge w (n + m) cap e
      have hcm : grownCap w (n + m) cap e ≤ maxLen := grownCap_le_maxLen w (n + m) cap e hml
      obtain ⟨olds, hol, hof, hor⟩ : ∃ olds : List Value, olds.length = n * T.size ∧ (Builtin.firstCells i.size n (.slice base n cap)).run P w.drew = .ok olds.toArray w.drew ∧ (∀ j y, xs[j]? = some y → RV P φ D w y (olds.getD j undef)) := by
        rcases hbase with ⟨rfl, rfl, rfl, _⟩ | ⟨j, bl, cs, rfl, hj, hmem', hra, _, hfit⟩
        · have hx0 : xs = [] := List.eq_nil_of_length_eq_zero (by simpa using hxl)
          subst hx0
          exact ⟨[], by simp, by simp [Builtin.firstCells], by simp⟩
        · have hle : n * T.size ≤ cs.size := Nat.le_trans (Nat.mul_le_mul_right _ hnc) hfit
          refine ⟨cs.toList.take (n * T.size), by simp; omega, ?_, fun j y hj => ?_⟩
          · rw [← hsz]
            refine firstCells_ok (by simp; omega) (fun ad e j u hu => ?_) (fun e => by cases e)
            cases e
            rw [cell_at (w := w.drew) hra.heap]
            rw [List.getElem?_take] at hu
            split at hu
            · simpa using hu
            · cases hu
          · have hlt : j < n * T.size := by rw [← hxl]; exact (List.getElem?_eq_some_iff.1 hj).1
            have := hra.cells j y hj
            rw [Array.getD_eq_getD_getElem?] at this
            simpa [List.getD_eq_getElem?_getD, hlt] using this
      have hfit48 : Builtin.nextslicecap (n + m) cap * i.bytes ≤ 281474976710656 := growslice_fits (by omega) (by rw [← hbb]; exact hby)
      have hrun : (Builtin.append_ #[t, u] ty #[.slice base n cap, vy]).run P w = .ok (.slice (some ⟨w.heap.size, 0, none⟩) (n + m) (grownCap w (n + m) cap e))
          (w.drew.alloc (Obj.cells (olds.toArray ++ news.toArray ++ Builtin.zeroCells zv.cells (grownCap w (n + m) cap e - (n + m))) e)) := by
        have h63 : ¬ (9223372036854775807 < (n : Int) + (m : Int)) := by simp only [maxLen] at hml; omega
        have h48' : ¬ (281474976710656 < Builtin.nextslicecap (n + m) cap * i.bytes) := by omega
        have hnn := hfc' w.drew rfl
        rcases hnz w with hd | hd <;> simp [Builtin.append_, run_underlying hu, hd, sizeOf, typeInfo, zeroValue, hi, hiz, hlen', hroom, h63, h48', Question.forced, newRow, grownCap, hof, hnn] <;> (congr 2; apply Array.ext'; simp)
      have hm1 : MR P w0 S0 φ D mem w.drew := hm.drew
      have hsize : (olds.toArray ++ news.toArray ++ Builtin.zeroCells zv.cells (grownCap w (n + m) cap e - (n + m))).size = grownCap w (n + m) cap e * T.size := by
        simp only [Array.size_append, List.size_toArray, size_zeroCells, hzs, hol, hnl, hyl, ← Nat.add_mul]
        congr 1
        omega
      have htd : Tr φ D w φ D w.drew := Tr.drew φ D w
      have hal := MR.alloc hm1 hk e (xs ++ ys) (olds.toArray ++ news.toArray ++ Builtin.zeroCells zv.cells (grownCap w (n + m) cap e - (n + m)))
        (by rw [hsize, List.length_append, hxl, hyl, ← Nat.add_mul]; exact Nat.mul_le_mul_right _ hge)
        (fun j y hj => by
          refine RV.mono htd ?_
          have hlt : j < xs.length + ys.length := by have := (List.getElem?_eq_some_iff.1 hj).1; simpa using this
          have e1 : (olds.toArray ++ news.toArray ++ Builtin.zeroCells zv.cells (grownCap w (n + m) cap e - (n + m))).getD j undef = (olds ++ news).getD j undef := by
            rw [Array.getD_eq_getD_getElem?, Array.getElem?_append_left (by simp; omega)]
            simp [List.getD_eq_getElem?_getD]
          rw [e1, List.getD_eq_getElem?_getD]
          by_cases hjl : j < xs.length
          · rw [List.getElem?_append_left hjl] at hj
            rw [List.getElem?_append_left (by omega)]
            have := hor j y hj
            rwa [List.getD_eq_getElem?_getD] at this
          · rw [List.getElem?_append_right (by omega)] at hj
            rw [List.getElem?_append_right (by omega)]
            have := hyr _ y hj
            rw [hol, ← hxl]
            rwa [List.getD_eq_getElem?_getD] at this)
      have htal := Tr.alloc (o := Obj.cells (olds.toArray ++ news.toArray ++ Builtin.zeroCells zv.cells (grownCap w (n + m) cap e - (n + m))) e) hm1 hk
      refine ⟨_, _, _, _, _, hrun, htd.trans htal, hkill _ _ _ hal, .ref (by simp [setPhi]) hge (fun _ => ⟨hcm, _, e, heap_alloc_new w.drew _, by rw [cellsOf_eq hT, hsize]; exact Nat.le_refl _⟩), hK⟩
  · exact h.elim

end Go.Pv

/- The engine of this session, part 7: what each operation does, and that it does so. -/
set_option linter.unusedVariables false
set_option linter.unusedSimpArgs false
namespace Go.Pv
open Go.RowKit
variable {P : Program} {w0 w w' : World} {S0 : Nat → Prop} {φ φ' : Phi} {D D' : Nat → Prop} {mem : Mem} {st : St} {a : Act} {o : Oper} {next : Act → World → Prop} {Q : Exit → Act → World → Prop}

def toBytes : List PV → Option (List Int)
  | [] => some []
  | .b (.int .u8 n) :: xs => (toBytes xs).map (n :: ·)
  | _ :: _ => none
def ofInts (ns : List Int) : ByteArray := ns.foldl (fun r n => r.push (UInt8.ofNat n.toNat)) ByteArray.empty
theorem toBytes_spec : ∀ {ys : List PV} {ns : List Int} {news : List Value}, toBytes ys = some ns → news.length = ys.length → (∀ j y, ys[j]? = some y → RV P φ D w y (news.getD j undef)) → news = ns.map (Value.int .u8)
  | [], ns, news, h, hl, _ => by simp [toBytes] at h; subst h; simpa using hl
  | y :: ys, ns, news, h, hl, hx => by
    unfold toBytes at h
    split at h
    · rename_i e; cases e
    · rename_i n xs e
      cases e
      simp only [Option.map_eq_some_iff] at h
      obtain ⟨ns', h, rfl⟩ := h
      cases news with
      | nil => simp at hl
      | cons v vs =>
        have h0 := hx 0 _ rfl
        simp at h0
        cases h0
        rw [toBytes_spec (news := vs) h (by simpa using hl) (fun j y hj => by simpa using hx (j + 1) y (by simpa using hj))]
        rfl
    · cases h

def isBytes (P : Program) (t : TypeId) : Option TypeId := match P.underlying t with | some (.slice e) => (match P.underlying e with | some (.int .u8) => some e | _ => none) | _ => none
theorem isBytes_some {t e : TypeId} (h : isBytes P t = some e) : P.underlying t = some (.slice e) ∧ P.underlying e = some (.int .u8) := by
  unfold isBytes at h
  split at h
  · rename_i e' hu
    split at h
    · rename_i he; cases h; exact ⟨hu, he⟩
    · cases h
  · cases h

def aConv (P : Program) (src dst : TypeId) (x : PV) (mem : Mem) (K : PV → Prop) (dflt : Prop) : Prop :=
  match x with
  | .b (.int k n) => (match P.underlying src, P.underlying dst with
    | some _, some (.int k') => K (.b (.int k' (k'.wrap n)))
    | _, _ => dflt)
  | .val _ _ | .ref _ _ _ => (match isBytes P src with
    | some _ => P.underlying dst = some .string ∧ aSrc mem 1 x fun m ys => (match toBytes ys with | some ns => K (.b (.string (ofInts ns))) | none => False)
    | none => dflt)
  | _ => dflt

theorem conv_sound {src dst : TypeId} {x : PV} {v : Value} (hm : MR P w0 S0 φ D mem w) (hx : RV P φ D w x v) {K : PV → Prop} {dflt : Prop} (h : aConv P src dst x mem K dflt) :
    dflt ∨ ∃ r y D' w', (convert src dst v).run P w = .ok r w' ∧ Tr φ D w φ D' w' ∧ MR P w0 S0 φ D' mem w' ∧ RV P φ D' w' y r ∧ K y := by
  have bytes : ∀ e, isBytes P src = some e → P.underlying dst = some .string → (∃ (base : Option Addr) (n c : Nat), v = .slice base n c) → (∀ s, x ≠ .b (.string s)) → aSrc mem 1 x (fun m ys => (match toBytes ys with | some ns => K (.b (.string (ofInts ns))) | none => False)) →
      ∃ r y D' w', (convert src dst v).run P w = .ok r w' ∧ Tr φ D w φ D' w' ∧ MR P w0 S0 φ D' mem w' ∧ RV P φ D' w' y r ∧ K y := fun e hs hd ⟨base, n, c, hv⟩ hns h => by
    subst hv
    obtain ⟨hsu, heu⟩ := isBytes_some hs
    obtain ⟨m, ys, news, hK, hlen, hyl, hnl, hyr, hfc⟩ := src_sound hm hx h (fun _ => rfl)
    have hmn : m = n := by
      have := congrFun hlen w
      simp [Builtin.lenOf] at this
      exact this.symm
    subst hmn
    split at hK
    · rename_i ns hb
      have hnews := toBytes_spec hb hnl hyr
      refine ⟨.string (ofInts ns), _, D, w, ?_, Tr.refl .., hm, .b _, hK⟩
      rw [run_convert_bytes_string w src dst e base m c hsu heu hd]
      cases base with
      | none =>
        have := hfc w rfl
        simp [Builtin.firstCells] at this
        have hn0 : news = [] := by simpa using this.symm
        rw [hn0] at hnews
        have : ns = [] := by simpa using hnews.symm
        subst this
        simp [Conv.bytesToString, ofInts]
      | some ad =>
        have := hfc w rfl
        simp only [Builtin.firstCells, Nat.mul_one] at this
        exact run_bytesToString w ad m c ns (by rw [this, hnews])
    · exact hK.elim
  unfold aConv at h
  split at h
  · cases hx
    split at h
    · rename_i d1 k' hs hd
      exact .inr ⟨_, _, D, w, by simp [convert, run_underlying hs, run_underlying hd, Conv.intToInt], Tr.refl .., hm, .b _, h⟩
    · exact .inl h
  · split at h
    · rename_i e hs
      refine .inr (bytes e hs h.1 ?_ (by simp) h.2)
      cases hx
      · exact ⟨_, _, _, rfl⟩
      · exact ⟨_, _, _, rfl⟩
    · exact .inl h
  · split at h
    · rename_i e hs
      refine .inr (bytes e hs h.1 ?_ (by simp) h.2)
      cases hx
      · exact ⟨_, _, _, rfl⟩
      · exact ⟨_, _, _, rfl⟩
      · exact ⟨_, _, _, rfl⟩
    · exact .inl h
  · exact .inl h

end Go.Pv

/- The engine of this session, part 8: an operation, and a list of them. -/
set_option linter.unusedVariables false
set_option linter.unusedSimpArgs false
namespace Go.Pv
open Go.RowKit
variable {P : Program} {w0 w w' : World} {S0 : Nat → Prop} {φ φ' : Phi} {D D' : Nat → Prop} {mem : Mem} {st : St} {a : Act} {o : Oper} {next : Act → World → Prop} {Q : Exit → Act → World → Prop}

def callable (P : Program) (f : FuncId) : Bool := match P.funcs[f]? with | some fn => !(fn.name == "runtime.NumGoroutine") && fn.body.isSome | none => false
theorem run_callFunc {f : FuncId} (h : callable P f = true) (args : Array Value) (w : World) : (callFunc f args).run P w = .ok (.enter f args) w := by
  unfold callable at h
  split at h
  · rename_i fn hf
    simp at h
    have h2 : fn.body.isNone = false := by cases hb : fn.body <;> simp_all
    simp [callFunc, hf, h.1, h2]
    intro hb
    rw [hb] at h2
    simp at h2
  · cases h

def aLen (P : Program) (t : TypeId) (x : PV) (K : PV → Prop) : Prop :=
  match x with
  | .ref _ _ n | .val n _ => (selem P t).isSome = true ∧ K (.b (.int .i64 n))
  | .b (.slice none 0 0) => (selem P t).isSome = true ∧ K (.b (.int .i64 0))
  | .b (.string s) => P.underlying t = some .string ∧ K (.b (.int .i64 s.size))
  | _ => False
def aMin (mx : Bool) (x y : PV) (K : PV → Prop) : Prop :=
  match x, y with
  | .b (.int k n), .b (.int k' m) => k = k' ∧ K (.b (.int k (if mx then max n m else min n m)))
  | _, _ => False
def aBuiltin (P : Program) (key : Nat) (b : Builtin) (ts : Array TypeId) (args : List PV) (mem : Mem) (K : PV → Mem → Prop) (dflt : Prop) : Prop :=
  match b, ts.toList, args with
  | .len, [t], [x] => aLen P t x (K · mem)
  | .append, [t, u], [x, y] => aAppend P key t u x y mem K
  | .min, _, [x, y] => aMin false x y (K · mem)
  | .max, _, [x, y] => aMin true x y (K · mem)
  | _, _, _ => dflt
def aExtract (x : PV) (i : Nat) (K : PV → Prop) : Prop :=
  match x with
  | .tup xs => (match xs[i]? with | some y => K y | none => False)
  | .b (.tuple vs) => (match vs[i]? with | some v => K (.b v) | none => False)
  | _ => False
def aFieldV (P : Program) (t : TypeId) (x : PV) (f : Nat) (K : PV → Prop) : Prop :=
  match x, P.underlying t with
  | .agg xs, some (.struct fs) => (match fs[f]? with
    | some fd => (match tinfo P fd.type with
      | some T => if T.agg then K (.agg ((xs.drop fd.offset).take T.size)) else (match xs[fd.offset]? with | some y => K y | none => False)
      | none => False)
    | none => False)
  | _, _ => False
def aNil (x : PV) (K : PV → Prop) (dflt : Prop) : Prop :=
  match x with
  | .ptr i o => K (.ptr i o)
  | .eptr xs => K (.eptr xs)
  | _ => dflt
def aIdxS (P : Program) (t : TypeId) (x ix : PV) (K : PV → Prop) (dflt : Prop) : Prop :=
  match x, ix with
  | .b (.string s), .b (.int k n) => P.underlying t = some .string ∧ 0 ≤ n ∧ n < s.size ∧ K (.b (.int .u8 (s.data.toList.getD n.toNat 0).toNat))
  | _, _ => dflt

def aop (P : Program) (key : Nat) (o : Oper) (st : St) (K : PV → Mem → Prop) : Prop :=
  match o.op with
  | .move x | .assign x => K (st.eval x) st.mem
  | .pick c x y => (match st.eval c with | .b (.bool t) => K (if t then st.eval x else st.eval y) st.mem | _ => False)
  | .alloc e => (match tinfo P e with
    | some T => (match T.zero with | some z => st.mem key = .free ∧ K (.ptr key 0) (upd st.mem key (.row e (z.map .b))) | none => False)
    | none => False)
  | .box e x => (match cellsOf (st.eval x) with | some ys => st.mem key = .free ∧ K (.ptr key 0) (upd st.mem key (.row e ys)) | none => False)
  | .build t parts => aBuild P t (parts.toList.map fun p => (p.1, st.eval p.2)) (K · st.mem)
  | .buildSlice t len parts => aBuildSlice P key t len (parts.toList.map fun p => (p.1, st.eval p.2)) st.mem K
  | .load t x => aLoad P t (st.eval x) st.mem (K · st.mem)
  | .store t p x => aStore P t (st.eval p) (st.eval x) st.mem (K (.b undef))
  | .nilCheck x => aNil (st.eval x) (K · st.mem) (aBase P o st K)
  | .binOp op t x y _ => aBin P op t (st.eval x) (st.eval y) (fun v => K (.b v) st.mem) (aErr P op t (isConst y) (st.eval x) (st.eval y) (fun z => K z st.mem) (aBase P o st K))
  | .unOp op _ x => aUn op (st.eval x) (fun v => K (.b v) st.mem) (aBase P o st K)
  | .convert src dst x => aConv P src dst (st.eval x) st.mem (K · st.mem) (aBase P o st K)
  | .makeSlice t l c => aMake P key t (st.eval l) (st.eval c) st.mem K
  | .slice t x lo hi mx => aSlice P t (st.eval x) (lo.map st.eval) (hi.map st.eval) (mx.map st.eval) (K · st.mem) (aBase P o st K)
  | .fieldAddr s x f => aField P s (st.eval x) f (K · st.mem)
  | .field t x f => aFieldV P t (st.eval x) f (K · st.mem)
  | .indexAddr t x ix => aIndex P t (st.eval x) (st.eval ix) (K · st.mem)
  | .index t x ix => aIdxS P t (st.eval x) (st.eval ix) (K · st.mem) (aBase P o st K)
  | .extract x i => aExtract (st.eval x) i (K · st.mem)
  | .call c => (match c.callee with
    | .builtin b => aBuiltin P key b c.argTypes (c.args.toList.map st.eval) st.mem K (aBase P o st K)
    | .value fo => (match st.eval fo with
      | .b (.func (.func f) first caps) => callable P f = true ∧ first = #[] ∧ caps = #[] ∧ ∃ x m', CallM P f (c.args.toList.map st.eval) st.mem (fun y n => y = x ∧ n = m') ∧ K x m'
      | _ => False)
    | .invoke _ _ => False)
  | _ => aBase P o st K

theorem RVs.evals (ht : RVs P φ D w st.tmps a.tmps) (xs : Array Operand) : RVs P φ D w (xs.toList.map st.eval) (xs.map a.eval) := by
  refine ⟨by simp, fun j x hj => ?_⟩
  simp at hj
  obtain ⟨q, hq, rfl⟩ := hj
  simp [hq]
  exact ht.eval q
theorem getI_eval (ht : RVs P φ D w st.tmps a.tmps) (x : Option Operand) : ∀ n, getI (x.map st.eval) = some n → IsB n (x.map a.eval) := fun n hn => by
  refine getI_spec (P := P) (φ := φ) (D := D) (w := w) (fun y u hy hu => ?_) (by simp) hn
  cases x with
  | none => simp at hy
  | some q => simp at hy hu; subst hy; subst hu; exact ht.eval q

theorem aop_sound {key : Nat} {K : PV → Mem → Prop} (h : aop P key o st K) (hm : MR P w0 S0 φ D st.mem w) (ht : RVs P φ D w st.tmps a.tmps)
    (hn : ∀ (x : PV) (mem' : Mem) (φ' : Phi) (D' : Nat → Prop) (w' : World) (v : Value), K x mem' → Tr φ D w φ' D' w' → MR P w0 S0 φ' D' mem' w' → RV P φ' D' w' x v → next (a.put o.dst v) w') : o.wp P a w next Q := by
  have here : ∀ {x : PV} {v : Value}, (execOp a.eval o).run P w = .ok (.value v) w → K x st.mem → RV P φ D w x v → o.wp P a w next Q := fun {x v} hr hK hx => wp_value hr (hn _ _ _ _ _ _ hK (Tr.refl ..) hm hx)
  have base : aBase P o st K → o.wp P a w next Q := fun h => by
    obtain ⟨v, hr, hK⟩ := base_sound ht h
    exact here hr hK (.b v)
  have row : ∀ {e : TypeId} {ys : List PV} {cs : Array Value}, st.mem key = .free → RVs P φ D w ys cs → (execOp a.eval o).run P w = .ok (.value (.pointer (some ⟨w.heap.size, 0, none⟩))) (w.alloc (Obj.cells cs e)) → K (.ptr key 0) (upd st.mem key (.row e ys)) → o.wp P a w next Q := fun hk hc hr hK => by
    obtain ⟨h1, h2, h3⟩ := new_sound hm hk hc
    exact wp_value hr (hn _ _ _ _ _ _ hK h1 h2 (.ptr h3))
  unfold aop at h
  split at h
  case h_1 x ho => exact here (by unfold execOp; simp [ho]) h (ht.eval x)
  case h_2 x ho => exact here (by unfold execOp; simp [ho]) h (ht.eval x)
  case h_3 c x y ho =>
    have hc := ht.eval c
    split at h
    · rename_i t hct
      rw [hct] at hc
      generalize hcv : a.eval c = cv at hc
      cases hc
      refine here (v := if t then a.eval x else a.eval y) (by unfold execOp; cases t <;> simp [ho, hcv, asBool]) h ?_
      cases t
      · exact ht.eval y
      · exact ht.eval x
    · exact h.elim
  case h_4 e ho =>
    split at h
    · rename_i T hT
      split at h
      · rename_i z hz
        obtain ⟨i, dsc, hi, _, _, _, _, hzz⟩ := tinfo_some hT
        cases hiz : i.zero with
        | none => rw [hiz] at hzz; rw [hzz] at hz; cases hz
        | some zv =>
          rw [hiz] at hzz
          rw [hzz] at hz
          simp at hz
          subst hz
          refine row h.1 (RVs_b P φ D w zv.cells) ?_ h.2
          unfold execOp
          simp [ho, Instr.alloc, zeroValue, typeInfo, hi, hiz, newVar, newRow]
      · exact h.elim
    · exact h.elim
  case h_5 e x ho =>
    split at h
    · rename_i ys hy
      refine row h.1 (cellsOf_spec (ht.eval x) hy) ?_ h.2
      unfold execOp
      simp [ho, Instr.box, newVar, newRow]
    · exact h.elim
  case h_6 t parts ho =>
    obtain ⟨r, y, h1, h2, h3⟩ := build_sound (P := P) (φ := φ) (D := D) (w := w) (vparts := parts.toList.map fun p => (p.1, a.eval p.2)) (by simp) (fun j p q hp hq => by
      simp only [List.getElem?_map, Option.map_eq_some_iff] at hp hq
      obtain ⟨⟨c, d⟩, hc, rfl⟩ := hp
      obtain ⟨⟨c', d'⟩, hc', rfl⟩ := hq
      rw [hc] at hc'
      cases hc'
      exact ⟨rfl, ht.eval d⟩) h
    refine here ?_ h3 h2
    unfold execOp
    have e : (parts.map fun p => (p.1, a.eval p.2)) = (parts.toList.map fun p => (p.1, a.eval p.2)).toArray := by apply Array.ext'; simp
    simp only [ho, e, Sem.run_bind, h1, Result.andThen_ok, Sem.run_pure]
  case h_7 t len parts ho =>
    obtain ⟨r, y, mem', φ', w', h1, h2, h3, h4, h5⟩ := buildSlice_sound (vparts := parts.toList.map fun p => (p.1, a.eval p.2)) hm (by simp) (fun j p q hp hq => by
      simp only [List.getElem?_map, Option.map_eq_some_iff] at hp hq
      obtain ⟨⟨c, d⟩, hc, rfl⟩ := hp
      obtain ⟨⟨c', d'⟩, hc', rfl⟩ := hq
      rw [hc] at hc'
      cases hc'
      exact ⟨rfl, ht.eval d⟩) h
    refine wp_value (w' := w') (v := r) ?_ (hn _ _ _ _ _ _ h5 h2 h3 h4)
    unfold execOp
    have e : (parts.map fun p => (p.1, a.eval p.2)) = (parts.toList.map fun p => (p.1, a.eval p.2)).toArray := by apply Array.ext'; simp
    simp only [ho, e, Sem.run_bind, h1, Result.andThen_ok, Sem.run_pure]
  case h_8 t x ho =>
    obtain ⟨u, x', h1, h2, h3⟩ := load_sound hm (ht.eval x) h
    exact here (by unfold execOp; simp [ho, h1]) h3 h2
  case h_9 t p x ho =>
    obtain ⟨w', mem', h1, h2, h3, h4⟩ := store_sound hm (ht.eval p) (ht.eval x) h
    exact wp_skip (w' := w') (by unfold execOp; simp [ho, h1]) (hn _ _ _ _ _ _ h2 h3 h4 (.b undef))
  case h_10 x ho =>
    have hx := ht.eval x
    unfold aNil at h
    split at h
    · rename_i i off e
      rw [e] at hx
      generalize hxv : a.eval x = xv at hx
      refine here (v := xv) ?_ h hx
      cases hx
      unfold execOp; simp [ho, hxv]
    · rename_i xs e
      rw [e] at hx
      generalize hxv : a.eval x = xv at hx
      refine here (v := xv) ?_ h hx
      cases hx
      unfold execOp; simp [ho, hxv]
    · exact base h
  case h_11 op t x y yt ho =>
    rcases bin_sound ho (ht.eval x) (ht.eval y) rfl rfl h with h | ⟨r, h1, h2⟩
    · rcases err_sound ho (ht.eval x) (ht.eval y) rfl rfl h with h | ⟨r, z, h1, h3, h2⟩
      · exact base h
      · exact here h1 h2 h3
    · exact here h1 h2 (.b r)
  case h_12 op t x ho =>
    rcases un_sound ho (ht.eval x) rfl h with h | ⟨r, h1, h2⟩
    · exact base h
    · exact here h1 h2 (.b r)
  case h_13 src dst x ho =>
    rcases conv_sound hm (ht.eval x) h with h | ⟨r, y, D', w', h1, h2, h3, h4, h5⟩
    · exact base h
    · exact wp_value (w' := w') (v := r) (by unfold execOp; simp [ho, h1]) (hn _ _ _ _ _ _ h5 h2 h3 h4)
  case h_14 t l c ho =>
    obtain ⟨r, y, mem', φ', w', h1, h2, h3, h4, h5⟩ := make_sound hm (ht.eval l) (ht.eval c) h
    exact wp_value (w' := w') (v := r) (by unfold execOp; simp [ho, h1]) (hn _ _ _ _ _ _ h5 h2 h3 h4)
  case h_15 t x lo hi mx ho =>
    rcases slice_sound (ht.eval x) (getI_eval ht lo) (getI_eval ht hi) (getI_eval ht mx) h with h | ⟨r, y, h1, h2, h3⟩
    · exact base h
    · exact here (by unfold execOp; simp [ho, h1]) h3 h2
  case h_16 s x f ho =>
    obtain ⟨u, x', h1, h2, h3⟩ := field_sound (ht.eval x) h
    exact here (by unfold execOp; simp [ho, h1]) h3 h2
  case h_17 t x f ho =>
    have hx := ht.eval x
    unfold aFieldV at h
    split at h
    · rename_i xs fs e hu
      rw [e] at hx
      generalize hxv : a.eval x = xv at hx
      split at h
      · rename_i fd hfd
        split at h
        · rename_i T hT
          cases hx with
          | @agg _ vs hl hx =>
            split at h
            · rename_i hagg
              refine here (v := .agg (vs.extract fd.offset (fd.offset + T.size))) ?_ h (.agg (by simp; omega) (fun j y hj => ?_))
              · unfold execOp
                simp [ho, hxv, Instr.field, run_underlying hu, hfd, asAgg, part, run_isAgg hT, hagg, run_sizeOf hT]
              · rw [List.getElem?_take] at hj
                split at hj
                · rename_i hlt
                  rw [List.getElem?_drop] at hj
                  have h1 := hx _ _ hj
                  have h2 : fd.offset + j < vs.size := by rw [hl]; exact (List.getElem?_eq_some_iff.1 hj).1
                  have e1 : (vs.extract fd.offset (fd.offset + T.size)).getD j undef = vs.getD (fd.offset + j) undef := by
                    simp only [Array.getD_eq_getD_getElem?]
                    congr 1
                    rw [Array.getElem?_extract]
                    rw [if_pos (by omega)]
                  rw [e1]
                  exact h1
                · cases hj
            · rename_i hagg
              split at h
              · rename_i y hy
                have h1 := hx _ _ hy
                have h2 : fd.offset < vs.size := by rw [hl]; exact (List.getElem?_eq_some_iff.1 hy).1
                have h3 : vs[fd.offset]? = some (vs.getD fd.offset undef) := by simp [h2]
                refine here (v := vs.getD fd.offset undef) ?_ h h1
                unfold execOp
                simp only [ho, hxv, Instr.field, Sem.run_bind, run_underlying hu, Result.andThen_ok, hfd, asAgg, Sem.run_pure, part, run_isAgg hT, hagg, Bool.false_eq_true, if_false, h3]
              · exact h.elim
        · exact h.elim
      · exact h.elim
    · exact h.elim
  case h_18 t x ix ho =>
    obtain ⟨r, y, h1, h2, h3⟩ := index_sound (ht.eval x) (ht.eval ix) h
    exact here (by unfold execOp; simp [ho, h1]) h3 h2
  case h_19 t x ix ho =>
    have hx := ht.eval x
    have hix := ht.eval ix
    unfold aIdxS at h
    split at h
    · rename_i s k n e1 e2
      rw [e1] at hx
      rw [e2] at hix
      generalize hxv : a.eval x = xv at hx
      generalize hiv : a.eval ix = iv at hix
      cases hx
      cases hix
      obtain ⟨hu, h0, h1, hK⟩ := h
      refine here ?_ hK (.b _)
      have hlt : n.toNat < s.size := by omega
      have hg : s[n.toNat]? = some (s.data.toList.getD n.toNat 0) := by
        have h2 : n.toNat < s.data.size := hlt
        rw [getElem?_pos s n.toNat hlt]
        show some (s.data[n.toNat]'h2) = _
        simp only [List.getD_eq_getElem?_getD, Array.getElem?_toList, Array.getElem?_eq_getElem h2, Option.getD_some]
      unfold execOp
      simp only [ho, hxv, hiv, Instr.index, Sem.run_bind, asIntOf, Sem.run_pure, Result.andThen_ok, run_underlying hu, h0, if_true, hg]
    · exact base h
  case h_20 x i ho =>
    have hx := ht.eval x
    unfold aExtract at h
    split at h
    · rename_i xs e
      rw [e] at hx
      generalize hxv : a.eval x = xv at hx
      split at h
      · rename_i y hy
        cases hx with
        | @tup _ vs hl hx =>
          have h1 := hx _ _ hy
          have h2 : i < vs.size := by rw [hl]; exact (List.getElem?_eq_some_iff.1 hy).1
          have h3 : vs[i]? = some (vs.getD i undef) := by simp [h2]
          refine here (v := vs.getD i undef) ?_ h h1
          unfold execOp
          simp only [ho, hxv, Instr.extract, h3, Sem.run_bind, Sem.run_pure, Result.andThen_ok]
      · exact h.elim
    · rename_i vs e
      rw [e] at hx
      generalize hxv : a.eval x = xv at hx
      cases hx
      split at h
      · rename_i v hv
        refine here (v := v) ?_ h (.b v)
        unfold execOp
        simp only [ho, hxv, Instr.extract, hv, Sem.run_bind, Sem.run_pure, Result.andThen_ok]
      · exact h.elim
    · exact h.elim
  case h_21 c ho =>
    have hargs := ht.evals c.args
    split at h
    · rename_i b hc
      have run : ∀ {v : Value} {w' : World}, ((builtin b c.argTypes o.type (c.args.map fun | .const _ => true | _ => false) (c.args.map a.eval)).run P w = .ok (.value v) w') → (execOp a.eval o).run P w = .ok (.value v) w' := fun {v w'} hr => by
        unfold execOp
        simp only [ho, resolve, hc, Sem.run_bind, Sem.run_pure, Result.andThen_ok, invoke]
        exact hr
      generalize hxs : c.args.toList.map st.eval = xs at h hargs
      generalize hvs : c.args.map a.eval = vs at run hargs
      unfold aBuiltin at h
      have one : ∀ {t : TypeId}, c.argTypes.toList = [t] → c.argTypes = #[t] := fun e => Array.ext' (by simpa using e)
      have two : ∀ {t u : TypeId}, c.argTypes.toList = [t, u] → c.argTypes = #[t, u] := fun e => Array.ext' (by simpa using e)
      have v1 : ∀ {x : PV}, xs = [x] → ∃ v, vs = #[v] ∧ RV P φ D w x v := fun {x} e => by
        subst e
        refine ⟨vs.getD 0 undef, ?_, hargs.2 0 x rfl⟩
        have := hargs.1
        simp at this
        apply Array.ext'
        rcases vs with ⟨l⟩
        cases l with
        | nil => simp at this
        | cons p l => cases l with
          | nil => simp
          | cons q l => simp at this
      have v2 : ∀ {x y : PV}, xs = [x, y] → ∃ u v, vs = #[u, v] ∧ RV P φ D w x u ∧ RV P φ D w y v := fun {x y} e => by
        subst e
        refine ⟨vs.getD 0 undef, vs.getD 1 undef, ?_, hargs.2 0 x rfl, hargs.2 1 y rfl⟩
        have := hargs.1
        simp at this
        apply Array.ext'
        rcases vs with ⟨l⟩
        cases l with
        | nil => simp at this
        | cons p l => cases l with
          | nil => simp at this
          | cons q l => cases l with
            | nil => simp
            | cons r l => simp at this
      split at h
      · rename_i t x hts
        obtain ⟨v, rfl, hx⟩ := v1 rfl
        rw [one hts] at run
        unfold aLen at h
        have sl : ∀ {ad : Option Addr} {n c' : Nat}, (selem P t).isSome = true → v = .slice ad n c' → (execOp a.eval o).run P w = .ok (.value (.int .i64 n)) w := fun {ad n c'} hs e => by
          subst e
          obtain ⟨⟨e', T⟩, hs⟩ := Option.isSome_iff_exists.1 hs
          obtain ⟨hu, _⟩ := selem_some hs
          exact run (by simp [builtin, Builtin.len_, run_underlying hu, goInt])
        split at h
        · cases hx
          · exact here (sl h.1 rfl) h.2 (.b _)
          · exact here (sl h.1 rfl) h.2 (.b _)
          · exact here (sl h.1 rfl) h.2 (.b _)
        · cases hx
          · exact here (sl h.1 rfl) h.2 (.b _)
          · exact here (sl h.1 rfl) h.2 (.b _)
        · cases hx
          exact here (sl h.1 rfl) h.2 (.b _)
        · cases hx
          exact here (run (by simp [builtin, Builtin.len_, run_underlying h.1, goInt])) h.2 (.b _)
        · exact h.elim
      · rename_i t u x y hts
        obtain ⟨v, v', rfl, hx, hy⟩ := v2 rfl
        rw [two hts] at run
        obtain ⟨r, z, mem', φ', w', h1, h2, h3, h4, h5⟩ := append_sound (ty := o.type) hm hx hy h
        exact wp_value (w' := w') (v := r) (run (by simp [builtin, h1])) (hn _ _ _ _ _ _ h5 h2 h3 h4)
      · rename_i x y
        obtain ⟨v, v', rfl, hx, hy⟩ := v2 rfl
        unfold aMin at h
        split at h
        · cases hx
          cases hy
          obtain ⟨rfl, h⟩ := h
          rename_i k n m
          refine here (v := .int k (if m < n then m else n)) (run (by simp only [builtin, Sem.run_bind, run_min_int2, Result.andThen_ok, Sem.run_pure])) h ?_
          have : (if false = true then max n m else min n m) = if m < n then m else n := by simp; omega
          rw [this]
          exact .b _
        · exact h.elim
      · rename_i x y
        obtain ⟨v, v', rfl, hx, hy⟩ := v2 rfl
        unfold aMin at h
        split at h
        · cases hx
          cases hy
          obtain ⟨rfl, h⟩ := h
          rename_i k n m
          refine here (v := .int k (if m > n then m else n)) (run (by simp only [builtin, Sem.run_bind, run_max_int2, Result.andThen_ok, Sem.run_pure])) h ?_
          have : (if true = true then max n m else min n m) = if m > n then m else n := by simp; omega
          rw [this]
          exact .b _
        · exact h.elim
      · exact base h
    · rename_i fo hc
      have hf := ht.eval fo
      split at h
      · rename_i f first caps e
        rw [e] at hf
        generalize hfv : a.eval fo = fv at hf
        cases hf
        obtain ⟨hcal, rfl, rfl, x', m', h, hK⟩ := h
        have hr : (execOp a.eval o).run P w = .ok (.enter f (c.args.map a.eval)) w := by
          unfold execOp
          simp only [ho, resolve, hc, hfv, Deferred.ofValue, Sem.run_bind, Sem.run_pure, Result.andThen_ok, invoke]
          rw [show (#[] ++ c.args.map a.eval ++ #[] : Array Value) = c.args.map a.eval by simp]
          exact run_callFunc hcal _ w
        unfold Oper.wp
        rw [hr]
        refine (h w0 S0 φ D w _ hm hargs).mono fun e w' he => ?_
        obtain ⟨v, x, mem', φ', D', rfl, ⟨rfl, rfl⟩, h2, h3, h4⟩ := he
        exact hn _ _ _ _ _ _ hK h2 h3 h4
      · exact h.elim
    · exact h.elim
  case h_22 => exact base h

end Go.Pv

/- The engine of this session, part 9: an operation tells one answer, and looks at its operands alone. -/
set_option linter.unusedVariables false
set_option linter.unusedSimpArgs false
namespace Go.Pv
variable {P : Program} {mem : Mem} {st : St} {o : Oper}

/-- What is told to whoever asks. -/
def Tells {α : Type} (F : (α → Prop) → Prop) : Prop := ∀ K, F K → ∃ x, K x ∧ ∀ K' : α → Prop, K' x → F K'
theorem Tells.one {α : Type} (x : α) : Tells fun K : α → Prop => K x := fun K h => ⟨x, h, fun _ h => h⟩
theorem Tells.no {α : Type} : Tells fun _ : α → Prop => False := fun K h => h.elim
theorem Tells.and {α : Type} {p : Prop} {F : (α → Prop) → Prop} (h : Tells F) : Tells fun K => p ∧ F K := fun K ⟨hp, hk⟩ => by
  obtain ⟨x, h1, h2⟩ := h K hk
  exact ⟨x, h1, fun K' hk' => ⟨hp, h2 K' hk'⟩⟩
theorem Tells.map {α β : Type} {F : (α → Prop) → Prop} (h : Tells F) (f : α → β) : Tells fun K : β → Prop => F fun x => K (f x) := fun K hk => by
  obtain ⟨x, h1, h2⟩ := h _ hk
  exact ⟨f x, h1, fun K' hk' => h2 _ hk'⟩
theorem Tells.bind {α β : Type} {F : (α → Prop) → Prop} {G : α → (β → Prop) → Prop} (h : Tells F) (hg : ∀ x, Tells (G x)) : Tells fun K : β → Prop => F fun x => G x K := fun K hk => by
  obtain ⟨x, h1, h2⟩ := h _ hk
  obtain ⟨y, h3, h4⟩ := hg x K h1
  exact ⟨y, h3, fun K' hk' => h2 _ (h4 K' hk')⟩
theorem Tells.ex {α β : Type} {F : β → (α → Prop) → Prop} (h : ∀ y, Tells (F y)) : Tells fun K => ∃ y, F y K := fun K ⟨y, hk⟩ => by
  obtain ⟨x, h1, h2⟩ := h y K hk
  exact ⟨x, h1, fun K' hk' => ⟨y, h2 K' hk'⟩⟩

theorem tells_loadPV (T : TI) (xs : List PV) : Tells (loadPV T xs) := by
  unfold loadPV
  split
  · exact .and (.one _)
  · refine .and ?_
    split
    · exact .one _
    · exact .no
theorem tells_aLoad (t : TypeId) (p : PV) : Tells (aLoad P t p mem) := by
  unfold aLoad
  split
  · exact .no
  · split
    · split
      · exact .and (tells_loadPV _ _)
      · exact .no
    · exact tells_loadPV _ _
    · exact .no
theorem tells_aStore (t : TypeId) (p x : PV) : Tells (aStore P t p x mem) := by
  unfold aStore
  split
  · split
    · exact .and (.and (.and (.and (.one _))))
    · exact .no
  · exact .no
theorem tells_aField (s : TypeId) (p : PV) (f : Nat) : Tells (aField P s p f) := by
  unfold aField
  split
  · exact .one _
  · exact .one _
  · exact .no
theorem tells_aIndex (t : TypeId) (x ix : PV) : Tells (aIndex P t x ix) := by
  unfold aIndex
  split
  · split
    · exact .and (.and (.one _))
    · exact .and (.and (.one _))
    · exact .no
  · exact .no
/-- What is told, by a table or by another one. -/
def TellsD {α : Type} {β : Type} (F : (α → Prop) → Prop → Prop) (f : α → β) : Prop := ∀ (G : (β → Prop) → Prop), Tells G → Tells fun K : β → Prop => F (fun x => K (f x)) (G K)
theorem tells_binI {β : Type} (f : Value → β) (op : BinOp) (k : IntKind) (a : Int) (k' : IntKind) (b : Int) : TellsD (binI op k a k' b) f := by
  intro G hG
  unfold binI
  split <;> first | exact hG | exact .and (.one _) | exact .and (.and (.one _))
theorem tells_binS {β : Type} (f : Value → β) (op : BinOp) (a b : ByteArray) : TellsD (binS op a b) f := by
  intro G hG
  unfold binS
  split <;> first | exact hG | exact .one _ | exact .and (.one _)
theorem tells_aBin {β : Type} (f : Value → β) (op : BinOp) (t : TypeId) (x y : PV) : TellsD (aBin P op t x y) f := by
  intro G hG
  unfold aBin
  split
  · exact tells_binI f _ _ _ _ _ G hG
  · exact tells_binS f _ _ _ G hG
  · split <;> first | exact hG | exact .and (.one _)
  · exact hG
theorem tells_aErr {β : Type} (f : PV → β) (op : BinOp) (t : TypeId) (c : Bool) (x y : PV) : TellsD (aErr P op t c x y) f := by
  intro G hG
  unfold aErr
  split <;> first | exact hG | exact .and (.one _) | exact .and (.and (.one _))
theorem tells_aUn {β : Type} (f : Value → β) (op : UnOp) (x : PV) : TellsD (aUn op x) f := by
  intro G hG
  unfold aUn
  split <;> first | exact hG | exact .one _
theorem tells_aSlice {β : Type} (f : PV → β) (t : TypeId) (x : PV) (lo hi mx : Option PV) : TellsD (aSlice P t x lo hi mx) f := by
  intro G hG
  unfold aSlice
  split
  · split
    · split
      · exact .and (.and (.and (.and (.and (.and (.one _))))))
      · exact .no
    · split
      · exact .and (.and (.and (.and (.and (.one _)))))
      · exact .no
    · exact .and (.and (.and (.and (.and (.one _)))))
    · exact hG
  · exact hG
theorem tells_aBuild (t : TypeId) (parts : List (Nat × PV)) : Tells (aBuild P t parts) := by
  unfold aBuild
  split
  · split
    · split
      · exact .one _
      · exact .no
    · exact .no
  · exact .no
/-- A value and a memory. -/
def TellsM (F : (PV → Mem → Prop) → Prop) : Prop := Tells fun K : PV × Mem → Prop => F fun x m => K (x, m)
theorem tells_aBuildSlice (key : Nat) (t : TypeId) (len : Nat) (parts : List (Nat × PV)) : TellsM (aBuildSlice P key t len parts mem) := by
  unfold TellsM aBuildSlice
  split
  · split
    · refine .and (.and (.and ?_))
      split
      · exact .and (.one _)
      · exact .no
    · exact .no
  · exact .no
theorem tells_aMake (key : Nat) (t : TypeId) (l c : PV) : TellsM (aMake P key t l c mem) := by
  unfold TellsM aMake
  split
  · split
    · exact .and (.and (.and (.and (.and (.and (.one _))))))
    · exact .no
  · exact .no
theorem tells_aSrc {β : Type} (sz : Nat) (y : PV) {G : Nat → List PV → (β → Prop) → Prop} (hG : ∀ m ys, Tells (G m ys)) : Tells fun K : β → Prop => aSrc mem sz y fun m ys => G m ys K := by
  unfold aSrc
  split
  · split
    · exact .and (hG _ _)
    · exact .no
  · exact .and (hG _ _)
  · exact hG _ _
  · exact hG _ _
  · exact .no
theorem tells_aAppend (key : Nat) (t u : TypeId) (x y : PV) : TellsM (aAppend P key t u x y mem) := by
  unfold TellsM aAppend
  split
  · refine .and (.and (.and (.and ?_)))
    unfold aDst
    split
    · split
      · exact .and (.and (tells_aSrc _ _ fun m ys => .and (.and (.and (.and (.one _))))))
      · exact .no
    · exact tells_aSrc _ _ fun m ys => .and (.and (.and (.and (.one _))))
    · exact .no
  · exact .no
theorem tells_aConv {β : Type} (f : PV → β) (src dst : TypeId) (x : PV) : TellsD (aConv P src dst x mem) f := by
  intro G hG
  have src' : ∀ y, Tells fun K : β → Prop => aSrc mem 1 y fun m ys => (match toBytes ys with | some ns => K (f (.b (.string (ofInts ns)))) | none => False) := fun y => by
    refine tells_aSrc (G := fun m ys K => match toBytes ys with | some ns => K (f (.b (.string (ofInts ns)))) | none => False) _ _ fun m ys => ?_
    split
    · exact .one _
    · exact .no
  unfold aConv
  split
  · split
    · exact .one _
    · exact hG
  · split
    · exact .and (src' _)
    · exact hG
  · split
    · exact .and (src' _)
    · exact hG
  · exact hG
theorem tells_aBase : TellsM (aBase P o st) := by
  unfold TellsM aBase
  exact .and (.and (.ex fun v => .and (.one _)))

theorem aop_tells (key : Nat) : TellsM (aop P key o st) := by
  have hb := tells_aBase (P := P) (o := o) (st := st)
  unfold TellsM at *
  unfold aop
  split
  case h_1 => exact .one _
  case h_2 => exact .one _
  case h_3 => split; exact .one _; exact .no
  case h_4 =>
    split
    · split
      · exact .and (.one _)
      · exact .no
    · exact .no
  case h_5 => split; exact .and (.one _); exact .no
  case h_6 => exact (tells_aBuild _ _).map _
  case h_7 => exact tells_aBuildSlice _ _ _ _
  case h_8 => exact (tells_aLoad _ _).map _
  case h_9 => exact (tells_aStore _ _ _).map _
  case h_10 => unfold aNil; split <;> first | exact .one _ | exact hb
  case h_11 => exact tells_aBin (fun v => (PV.b v, st.mem)) _ _ _ _ _ (tells_aErr (fun z => (z, st.mem)) _ _ _ _ _ _ hb)
  case h_12 => exact tells_aUn (fun v => (PV.b v, st.mem)) _ _ _ hb
  case h_13 => exact tells_aConv (fun v => (v, st.mem)) _ _ _ _ hb
  case h_14 => exact tells_aMake _ _ _ _
  case h_15 => exact tells_aSlice (fun v => (v, st.mem)) _ _ _ _ _ _ hb
  case h_16 => exact (tells_aField _ _ _).map _
  case h_17 =>
    unfold aFieldV
    split
    · split
      · split
        · split
          · exact .one _
          · split
            · exact .one _
            · exact .no
        · exact .no
      · exact .no
    · exact .no
  case h_18 => exact (tells_aIndex _ _ _).map _
  case h_19 => unfold aIdxS; split <;> first | exact .and (.and (.and (.one _))) | exact hb
  case h_20 =>
    unfold aExtract
    split
    · split
      · exact .one _
      · exact .no
    · split
      · exact .one _
      · exact .no
    · exact .no
  case h_21 =>
    split
    · unfold aBuiltin
      split
      · unfold aLen
        split <;> first | exact .and (.one _) | exact .no
      · exact tells_aAppend _ _ _ _ _
      · unfold aMin; split <;> first | exact .and (.one _) | exact .no
      · unfold aMin; split <;> first | exact .and (.one _) | exact .no
      · exact hb
    · split
      · exact .and (.and (.and (.ex fun x => .ex fun m' => .and (.one _))))
      · exact .no
    · exact .no
  case h_22 => exact hb

theorem map_congr_ops {s t : St} {xs : Array Operand} (h : ∀ x ∈ xs, s.eval x = t.eval x) : xs.toList.map s.eval = xs.toList.map t.eval := List.map_congr_left fun x hx => h x (by simpa using hx)
theorem map_congr_opt {s t : St} {x : Option Operand} (h : ∀ y, x = some y → s.eval y = t.eval y) : x.map s.eval = x.map t.eval := by
  cases x with
  | none => rfl
  | some y => simp [h y rfl]
theorem map_congr_parts {s t : St} {ps : Array (Nat × Operand)} (h : ∀ x ∈ (ps.toList.map (·.2)).toArray, s.eval x = t.eval x) : (ps.toList.map fun p => (p.1, s.eval p.2)) = (ps.toList.map fun p => (p.1, t.eval p.2)) :=
  List.map_congr_left fun p hp => by rw [h p.2 (by simpa using ⟨p.1, by simpa using hp⟩)]

theorem aBase_congr {s t : St} (hm : s.mem = t.mem) (h : ∀ x ∈ o.op.operands, s.eval x = t.eval x) (K : PV → Mem → Prop) : aBase P o s K = aBase P o t K := by
  unfold aBase
  by_cases hs : isSelect o.op = false
  · have e1 : o.op.operands.toList.all (fun x => isB (s.eval x)) = o.op.operands.toList.all (fun x => isB (t.eval x)) := by
      rw [Bool.eq_iff_iff]
      simp only [List.all_eq_true]
      constructor
      · intro hh x hx; rw [← h x (by simpa using hx)]; exact hh x hx
      · intro hh x hx; rw [h x (by simpa using hx)]; exact hh x hx
    have e2 : execOp (fun x => unb (s.eval x)) o = execOp (fun x => unb (t.eval x)) o := execOp_congr o (fun cs b e => by rw [e] at hs; cases hs) (fun x hx => by rw [h x hx])
    rw [e1, e2, hm]
  · simp [hs]

theorem aop_congr {s t : St} (key : Nat) (hm : s.mem = t.mem) (h : ∀ x ∈ o.op.operands, s.eval x = t.eval x) (K : PV → Mem → Prop) : aop P key o s K = aop P key o t K := by
  have hb := aBase_congr (P := P) hm h K
  unfold aop
  cases ho : o.op <;> simp only [ho, Op.operands] at h ⊢
  case build t parts => rw [map_congr_parts h, hm]
  case buildSlice t n parts => rw [map_congr_parts h, hm]
  case slice t x lo hi mx =>
    rw [h x (by simp), map_congr_opt (x := lo) (fun y hy => h y (by simp [hy])), map_congr_opt (x := hi) (fun y hy => h y (by simp [hy])), map_congr_opt (x := mx) (fun y hy => h y (by simp [hy])), hm, hb]
  case call c =>
    have hargs := map_congr_ops (s := s) (t := t) (xs := c.args) (fun x hx => h x (by simp [Call.operands]; exact .inr hx))
    cases hc : c.callee with
    | builtin b => simp only [hargs, hm, hb]
    | value f =>
      have := h f (by simp [Call.operands, hc])
      simp only [this, hargs, hm]
    | invoke r n => rfl
  all_goals first
    | exact hb
    | (rw [h _ (by simp), h _ (by simp), h _ (by simp), hm])
    | (rw [h _ (by simp), h _ (by simp), hm, hb])
    | (rw [h _ (by simp), h _ (by simp), hm])
    | (rw [h _ (by simp), hm, hb])
    | (rw [h _ (by simp), hm])
    | (rw [h _ (by simp), hb])
    | rw [hm]
    | skip

end Go.Pv

/- The engine of this session, part 10: lists of operations, in their order or in whatever order. -/
set_option linter.unusedVariables false
set_option linter.unusedSimpArgs false
namespace Go.Pv
variable {P : Program} {w0 w w' : World} {S0 : Nat → Prop} {φ φ' : Phi} {D D' : Nat → Prop} {mem : Mem} {st : St} {a : Act} {o : Oper} {Q : Exit → Act → World → Prop} {ops : Array Oper} {base : Nat}

def putL (ts : List PV) (dst : Option Tmp) (x : PV) : List PV := match dst with | some d => ts.set d x | none => ts
theorem put_eq (s : St) (dst : Option Tmp) (x : PV) (m : Mem) : put s dst x m = ⟨putL s.tmps dst x, m⟩ := rfl

def gd (ops : Array Oper) (o : Oper) (ts : List PV) : Option Bool :=
  match o.guard with
  | none => some true
  | some (j, want) => (match ((ops[j]?).bind (·.dst)) with
    | none => some false
    | some t => (match ts[t]? with
      | some (.b (.bool b)) => some (b == want)
      | some (.b _) => some false
      | some _ => none
      | none => some false))
theorem gd_spec (ht : RVs P φ D w st.tmps a.tmps) {t : Bool} (h : gd ops o st.tmps = some t) : Region.wanted o (yielded ops a.tmps) = t := by
  unfold gd at h
  unfold Region.wanted
  split at h
  · rename_i hg; rw [hg]; cases h; rfl
  · rename_i j want hg
    rw [hg]
    simp only [yielded]
    split at h
    · rename_i hd; cases h; simp [hd]
    · rename_i d hd
      rw [hd]
      simp only [Option.bind_some]
      split at h
      · rename_i b hb
        have := ht.2 d _ hb
        have hlt : d < a.tmps.size := by rw [ht.1]; exact (List.getElem?_eq_some_iff.1 hb).1
        cases h
        generalize hv : a.tmps.getD d undef = v at this
        cases this
        have e : a.tmps[d]? = some (.bool b) := by rw [Array.getElem?_eq_getElem hlt]; simp [hlt] at hv; rw [hv]
        rw [e]
        cases b <;> cases want <;> rfl
      · rename_i v hn hb
        have := ht.2 d _ hb
        have hlt : d < a.tmps.size := by rw [ht.1]; exact (List.getElem?_eq_some_iff.1 hb).1
        cases h
        generalize hv : a.tmps.getD d undef = u at this
        cases this
        have e : a.tmps[d]? = some v := by rw [Array.getElem?_eq_getElem hlt]; simp [hlt] at hv; rw [hv]
        rw [e]
        cases v <;> first | rfl | exact absurd rfl (hn _)
      · cases h
      · rename_i hb
        have e : a.tmps[d]? = none := by rw [Array.getElem?_eq_none]; rw [ht.1]; exact List.getElem?_eq_none_iff.1 hb
        cases h
        rw [e]
        cases want <;> rfl

def aGuard (ops : Array Oper) (o : Oper) (ts : List PV) (run skip : Prop) : Prop :=
  match gd ops o ts with
  | none => False
  | some t => (t = true → run) ∧ (t = false → skip)
theorem aGuard_true {ts : List PV} {r s : Prop} (h : gd ops o ts = some true) (hr : r) : aGuard ops o ts r s := by
  unfold aGuard; rw [h]; exact ⟨fun _ => hr, fun e => by cases e⟩
theorem aGuard_false {ts : List PV} {r s : Prop} (h : gd ops o ts = some false) (hs : s) : aGuard ops o ts r s := by
  unfold aGuard; rw [h]; exact ⟨fun e => (by cases e), fun _ => hs⟩
theorem aGuard_mono {ts : List PV} {r s r' s' : Prop} (h : aGuard ops o ts r s) (hr : r → r') (hs : s → s') : aGuard ops o ts r' s' := by
  unfold aGuard at *
  split at h
  · exact h
  · exact ⟨fun e => hr (h.1 e), fun e => hs (h.2 e)⟩

def aops (P : Program) (base : Nat) (ops : Array Oper) : Nat → List Oper → St → (St → Prop) → Prop
  | _, [], st, K => K st
  | i, o :: rest, st, K => aGuard ops o st.tmps (aop P (base + 16 * i) o st fun x m => aops P base ops (i + 1) rest (put st o.dst x m) K) (aops P base ops (i + 1) rest (put st o.dst (.b undef) st.mem) K)

/-- What is so behind some steps. -/
def After (P : Program) (w0 : World) (S0 : Nat → Prop) (φ : Phi) (D : Nat → Prop) (w : World) (df : List Deferred) (K : St → Prop) (a' : Act) (w' : World) : Prop :=
  ∃ st' φ' D', K st' ∧ Tr φ D w φ' D' w' ∧ MR P w0 S0 φ' D' st'.mem w' ∧ RVs P φ' D' w' st'.tmps a'.tmps ∧ a'.defers = df
theorem After.trans {df : List Deferred} {K : St → Prop} {a' : Act} (ht : Tr φ D w φ' D' w') {w2 : World} (h : After P w0 S0 φ' D' w' df K a' w2) : After P w0 S0 φ D w df K a' w2 := by
  obtain ⟨st', φ2, D2, h1, h2, h3, h4, h5⟩ := h
  exact ⟨st', φ2, D2, h1, ht.trans h2, h3, h4, h5⟩
theorem put_defers (a : Act) (dst : Option Tmp) (v : Value) : (a.put dst v).defers = a.defers := by cases dst <;> rfl

theorem wpAt {K : PV → Mem → Prop} {L : St → Prop} {key : Nat} {nx : Act → World → Prop} (h : aGuard ops o st.tmps (aop P key o st fun x m => L (put st o.dst x m)) (L (put st o.dst (.b undef) st.mem)))
    (hm : MR P w0 S0 φ D st.mem w) (ht : RVs P φ D w st.tmps a.tmps)
    (hn : ∀ st' φ' D' w' a', L st' → Tr φ D w φ' D' w' → MR P w0 S0 φ' D' st'.mem w' → RVs P φ' D' w' st'.tmps a'.tmps → a'.defers = a.defers → nx a' w') :
    if Region.wanted o (yielded ops a.tmps) then o.wp P a w nx Q ∨ (o.asks P a w ∧ LetsOut Q) else nx (a.put o.dst undef) w := by
  unfold aGuard at h
  split at h
  · exact h.elim
  · rename_i t hg
    have hw := gd_spec ht hg
    cases t with
    | true =>
      rw [if_pos hw]
      refine .inl (aop_sound (h.1 rfl) hm ht fun x mem' φ' D' w' v hK h1 h2 h3 => ?_)
      exact hn _ φ' D' w' _ hK h1 h2 ((ht.mono h1).put h3) (put_defers ..)
    | false =>
      rw [if_neg (by rw [hw]; simp)]
      exact hn _ φ D w _ (h.2 rfl) (Tr.refl ..) hm (ht.put (.b undef)) (put_defers ..)

theorem aops_sound {K : St → Prop} : ∀ (l : List Oper) (i : Nat) (st : St) (φ : Phi) (D : Nat → Prop) (w : World) (a : Act), aops P base ops i l st K → MR P w0 S0 φ D st.mem w → RVs P φ D w st.tmps a.tmps →
    (∀ a' w', After P w0 S0 φ D w a.defers K a' w' → Q .normal a' w') → wpList P ops Q l a w
  | [], i, st, φ, D, w, a, h, hm, ht, hQ => hQ a w ⟨st, φ, D, h, Tr.refl .., hm, ht, rfl⟩
  | o :: rest, i, st, φ, D, w, a, h, hm, ht, hQ => by
    unfold wpList
    refine wpAt (K := fun _ _ => True) (L := fun st' => aops P base ops (i + 1) rest st' K) h hm ht fun st' φ' D' w' a' hL h1 h2 h3 h4 => ?_
    exact aops_sound rest (i + 1) st' φ' D' w' a' hL h2 h3 fun a2 w2 h5 => hQ a2 w2 (After.trans h1 (by rw [h4] at h5; exact h5))

theorem aops_mono {K K' : St → Prop} (hk : ∀ s, K s → K' s) : ∀ (l : List Oper) (i : Nat) (st : St), aops P base ops i l st K → aops P base ops i l st K'
  | [], _, _, h => hk _ h
  | o :: rest, i, st, h => aGuard_mono h (fun h => by
      obtain ⟨x, h1, h2⟩ := aop_tells (P := P) (st := st) (o := o) (base + 16 * i) (fun p => aops P base ops (i + 1) rest (put st o.dst p.1 p.2) K) h
      exact h2 (fun p => aops P base ops (i + 1) rest (put st o.dst p.1 p.2) K') (aops_mono hk rest (i + 1) _ h1)) (fun h => aops_mono hk rest (i + 1) _ h)

/-- Whatever order is drawn. -/
def aAt (P : Program) (base : Nat) (ops : Array Oper) (i : Nat) (K : St → Prop) (st : St) : Prop :=
  match ops[i]? with
  | none => K st
  | some o => aGuard ops o st.tmps (aop P (base + 16 * i) o st fun x m => K (put st o.dst x m)) (K (put st o.dst (.b undef) st.mem))
def aAny (P : Program) (base : Nat) (ops : Array Oper) (K : St → Prop) : Nat → Array Bool → St → Prop
  | 0, listed, st => Region.ready .any ops listed = [] ∧ K st
  | f + 1, listed, st => (Region.ready .any ops listed = [] → K st) ∧ ∀ i ∈ Region.ready .any ops listed, aAt P base ops i (aAny P base ops K f (listed.setIfInBounds i true)) st
theorem aAny_sound {K : St → Prop} : ∀ (f : Nat) (listed : Array Bool) (st : St) (φ : Phi) (D : Nat → Prop) (w : World) (a : Act), aAny P base ops K f listed st → MR P w0 S0 φ D st.mem w → RVs P φ D w st.tmps a.tmps →
    (∀ a' w', After P w0 S0 φ D w a.defers K a' w' → Q .normal a' w') → wpAny P .any ops Q f listed a w
  | 0, listed, st, φ, D, w, a, h, hm, ht, hQ => ⟨h.1, hQ a w ⟨st, φ, D, h.2, Tr.refl .., hm, ht, rfl⟩⟩
  | f + 1, listed, st, φ, D, w, a, h, hm, ht, hQ => by
    refine ⟨fun h0 => hQ a w ⟨st, φ, D, h.1 h0, Tr.refl .., hm, ht, rfl⟩, fun i hi => ?_⟩
    have h1 := h.2 i hi
    obtain ⟨_, oi, hoi, _⟩ := mem_ready.1 hi
    unfold aAt at h1
    unfold wpOp
    simp only [hoi] at h1 ⊢
    exact wpAt (K := fun _ _ => True) (L := fun st' => aAny P base ops K f (listed.setIfInBounds i true) st') h1 hm ht fun st' φ' D' w' a' hL h2 h3 h4 h5 =>
      aAny_sound f _ st' φ' D' w' a' hL h3 h4 fun a2 w2 h6 => hQ a2 w2 (After.trans h2 (by rw [h5] at h6; exact h6))

theorem aAt_mono {K K' : St → Prop} (hk : ∀ s, K s → K' s) {i : Nat} (h : aAt P base ops i K st) : aAt P base ops i K' st := by
  unfold aAt at *
  split at h
  · exact hk _ h
  · rename_i o ho
    refine aGuard_mono h (fun h => ?_) (hk _)
    obtain ⟨x, h1, h2⟩ := aop_tells (P := P) (st := st) (o := o) (base + 16 * i) (fun p => K (put st o.dst p.1 p.2)) h
    exact h2 (fun p => K' (put st o.dst p.1 p.2)) (hk _ h1)

/-- An operation that surely tells x and leaves memory alone. -/
def Sure (P : Program) (key : Nat) (o : Oper) (st : St) (x : PV) : Prop := ∀ K : PV → Mem → Prop, K x st.mem → aop P key o st K
def Yld (P : Program) (base : Nat) (ops : Array Oper) (m : Mem) (i : Nat) (o : Oper) (x : PV) (ts : List PV) : Prop :=
  (gd ops o ts = some true ∧ Sure P (base + 16 * i) o ⟨ts, m⟩ x) ∨ (gd ops o ts = some false ∧ x = .b undef)
def sAt (P : Program) (base : Nat) (ops : Array Oper) (m : Mem) (i : Nat) (K : List PV → Prop) (ts : List PV) : Prop :=
  match ops[i]? with
  | none => K ts
  | some o => ∃ x, Yld P base ops m i o x ts ∧ K (putL ts o.dst x)
theorem sAt_aAt {m : Mem} {i : Nat} {K : List PV → Prop} {K' : St → Prop} {ts : List PV} (hk : ∀ ts, K ts → K' ⟨ts, m⟩) (h : sAt P base ops m i K ts) : aAt P base ops i K' ⟨ts, m⟩ := by
  unfold sAt at h
  unfold aAt
  cases ho : ops[i]? with
  | none => simp only [ho] at h ⊢; exact hk _ h
  | some o =>
    simp only [ho] at h ⊢
    obtain ⟨x, hy, hK⟩ := h
    rcases hy with ⟨hg, hs⟩ | ⟨hg, rfl⟩
    · exact aGuard_true hg (hs (fun x m' => K' (put ⟨ts, m⟩ o.dst x m')) (hk _ hK))
    · exact aGuard_false hg (hk _ hK)
theorem sAt_mono {m : Mem} {i : Nat} {K K' : List PV → Prop} {ts : List PV} (hk : ∀ ts, K ts → K' ts) (h : sAt P base ops m i K ts) : sAt P base ops m i K' ts := by
  unfold sAt at *
  cases ho : ops[i]? with
  | none => simp only [ho] at h ⊢; exact hk _ h
  | some o =>
    simp only [ho] at h ⊢
    obtain ⟨x, h1, h2⟩ := h
    exact ⟨x, h1, hk _ h2⟩

theorem eval_putL {ts : List PV} {m : Mem} {dst : Option Tmp} {x : PV} {y : Operand} (h : ∀ d, dst = some d → y ≠ .tmp d) : St.eval ⟨putL ts dst x, m⟩ y = St.eval ⟨ts, m⟩ y := by
  cases dst with
  | none => rfl
  | some d =>
    cases y with
    | tmp t =>
      have hne : d ≠ t := fun e => h d rfl (e ▸ rfl)
      simp [St.eval, putL, List.getElem?_set_ne hne]
    | _ => rfl
theorem putL_comm (ts : List PV) {p q : Option Tmp} (x y : PV) (h : ∀ d, p = some d → q ≠ some d) : putL (putL ts p x) q y = putL (putL ts q y) p x := by
  cases p with
  | none => rfl
  | some d =>
    cases q with
    | none => rfl
    | some e =>
      have : d ≠ e := fun he => h d rfl (by rw [he])
      simp only [putL]
      exact List.set_comm _ _ this
theorem gd_putL {ts : List PV} {dst : Option Tmp} {x : PV} (h : ∀ d, dst = some d → d ∉ o.looksAt ops) : gd ops o (putL ts dst x) = gd ops o ts := by
  cases dst with
  | none => rfl
  | some d =>
    have hd := h d rfl
    unfold gd
    cases hg : o.guard with
    | none => rfl
    | some p =>
      obtain ⟨j, want⟩ := p
      cases hb : (ops[j]?).bind (·.dst) with
      | none => simp only [hb]
      | some t =>
        have hne : d ≠ t := fun e => hd (by
          unfold Oper.looksAt
          rw [hg]
          refine List.mem_append_right _ ?_
          simp only [hb, Option.toList_some, List.mem_singleton]
          exact e)
        simp only [hb, putL, List.getElem?_set_ne hne]
theorem Yld.same {m : Mem} {i : Nat} {x : PV} {ts : List PV} {dst : Option Tmp} {y : PV} (h : ∀ d, dst = some d → d ∉ o.looksAt ops) : Yld P base ops m i o x (putL ts dst y) ↔ Yld P base ops m i o x ts := by
  unfold Yld
  rw [gd_putL h]
  have e : Sure P (base + 16 * i) o ⟨putL ts dst y, m⟩ x ↔ Sure P (base + 16 * i) o ⟨ts, m⟩ x := by
    unfold Sure
    have he : ∀ K, aop P (base + 16 * i) o ⟨putL ts dst y, m⟩ K = aop P (base + 16 * i) o ⟨ts, m⟩ K := fun K => by
      refine aop_congr (s := ⟨putL ts dst y, m⟩) (t := ⟨ts, m⟩) (base + 16 * i) rfl (fun z hz => eval_putL fun d hd e => h d hd ?_) K
      subst e
      unfold Oper.looksAt
      exact List.mem_append_left _ (List.mem_filterMap.2 ⟨.tmp d, by simpa using hz, rfl⟩)
    constructor <;> intro hh K hK
    · rw [← he]; exact hh K hK
    · rw [he]; exact hh K hK
  rw [e]
theorem sAt_put {m : Mem} {i j : Nat} {oi oj : Oper} {x : PV} (hj : ops[j]? = some oj) (hap : oi.apart ops oj = true) {K : List PV → Prop} {ts : List PV} (hy : Yld P base ops m i oi x ts) (h : sAt P base ops m j K (putL ts oi.dst x)) :
    sAt P base ops m j (fun ts' => Yld P base ops m i oi x ts' ∧ K (putL ts' oi.dst x)) ts := by
  obtain ⟨h1, h2, h3⟩ := Oper.apart_spec hap
  unfold sAt at *
  simp only [hj] at *
  obtain ⟨y, hyj, hK⟩ := h
  refine ⟨y, (Yld.same h1).1 hyj, (Yld.same h3).2 hy, ?_⟩
  rw [putL_comm ts x y h2] at hK
  exact hK

def sAnyL (P : Program) (base : Nat) (ops : Array Oper) (m : Mem) (n : Nat) (L : Array Bool → List PV → Prop) : Nat → Array Bool → List PV → Prop
  | 0, listed, ts => L listed ts
  | f + 1, listed, ts => Region.ready .any ops listed ≠ [] ∧ ∀ i ∈ Region.ready .any ops listed, i < n ∧ sAt P base ops m i (sAnyL P base ops m n L f (listed.setIfInBounds i true)) ts
theorem aAny_of_head {m : Mem} {n g : Nat} {L : Array Bool → List PV → Prop} {K : St → Prop} (hL : ∀ listed ts, L listed ts → aAny P base ops K g listed ⟨ts, m⟩) :
    ∀ (f : Nat) (listed : Array Bool) (ts : List PV), sAnyL P base ops m n L f listed ts → aAny P base ops K (f + g) listed ⟨ts, m⟩
  | 0, listed, ts, h => by rw [Nat.zero_add]; exact hL _ _ h
  | f + 1, listed, ts, h => by
    rw [show f + 1 + g = (f + g) + 1 by omega]
    exact ⟨fun h0 => absurd h0 h.1, fun i hi => sAt_aAt (fun ts' h' => aAny_of_head hL f _ ts' h') (h.2 i hi).2⟩

theorem sAnyL_first {m : Mem} {n i : Nat} {oi : Oper} {x : PV} {L : Array Bool → List PV → Prop} (hi : ops[i]? = some oi)
    (hw : ∀ listed, HeadInv .any ops n listed → ∀ i, i < n → listed.getD i true = false → ∀ t, n ≤ t → t ∉ Region.ready .any ops listed) (hin : i < n)
    (hdone : ∀ listed ts, L listed ts → ∀ j ∈ Region.ready .any ops listed, n ≤ j) :
    ∀ (f : Nat) (listed : Array Bool) (ts : List PV), HeadInv .any ops n listed →
      (∀ j oj, ops[j]? = some oj → j ≠ i → listed.getD j true = false → (∀ e ∈ oj.after, Region.binds .any e = true → e.on ≠ i) → oi.apart ops oj = true) →
      i ∈ Region.ready .any ops listed → Yld P base ops m i oi x ts →
      sAnyL P base ops m n L f (listed.setIfInBounds i true) (putL ts oi.dst x) → sAnyL P base ops m n L (f + 1) listed ts := by
  intro f
  induction f with
  | zero =>
    intro listed ts inv _ hr hy H
    have hun := (mem_ready.1 hr).1
    refine ⟨fun h => (by rw [h] at hr; cases hr), fun j hj => ?_⟩
    have hjn : j < n := by
      rcases Nat.lt_or_ge j n with h | h
      · exact h
      · exact absurd hj (hw listed inv i hin hun j h)
    refine ⟨hjn, ?_⟩
    by_cases hji : j = i
    · subst hji
      unfold sAt
      simp only [hi]
      exact ⟨x, hy, H⟩
    · have := hdone _ _ H j (ready_mono hj hji)
      omega
  | succ f ih =>
    intro listed ts inv hfree hr hy H
    have hun := (mem_ready.1 hr).1
    refine ⟨fun h => (by rw [h] at hr; cases hr), fun j hj => ?_⟩
    have hjn : j < n := by
      rcases Nat.lt_or_ge j n with h | h
      · exact h
      · exact absurd hj (hw listed inv i hin hun j h)
    refine ⟨hjn, ?_⟩
    by_cases hji : j = i
    · subst hji
      unfold sAt
      simp only [hi]
      exact ⟨x, hy, H⟩
    · have h1 := (H.2 j (ready_mono hj hji)).2
      obtain ⟨hjun, oj, hoj, hall⟩ := mem_ready.1 hj
      have hnot : ∀ e ∈ oj.after, Region.binds .any e = true → e.on ≠ i := fun e he hb heq => by
        have h1 := hall e he hb
        rw [heq, getD_both hun] at h1
        cases h1
      have h2 := sAt_put hoj (hfree j oj hoj hji hjun hnot) hy h1
      have hfree' : ∀ k ok, ops[k]? = some ok → k ≠ i → (listed.setIfInBounds j true).getD k true = false →
          (∀ e ∈ ok.after, Region.binds .any e = true → e.on ≠ i) → oi.apart ops ok = true := fun k ok hk hki hun hno => by
        refine hfree k ok hk hki ?_ hno
        by_cases hjk : j = k
        · subst hjk; exact hjun
        · rw [getD_set_ne true hjk] at hun; exact hun
      refine sAt_mono (fun ts' h3 => ih (listed.setIfInBounds j true) ts' (inv.set hj hjn) hfree' (ready_mono hr (Ne.symm hji)) h3.1 ?_) h2
      rw [Array.setIfInBounds_comm _ _ hji]
      exact h3.2

theorem aAny_of_seq {K : St → Prop} : ∀ (l : List Oper) (k : Nat) (listed : Array Bool) (st : St), (∀ j, l[j]? = ops[k + j]?) → Region.seqB .any ops l.length k listed = true → aops P base ops k l st K → aAny P base ops K l.length listed st
  | [], _, _, _, _, hB, h => ⟨by simpa [Region.seqB] using hB, h⟩
  | o :: l, k, listed, st, hl, hB, h => by
    have h0 : ops[k]? = some o := by simpa using (hl 0).symm
    simp only [List.length_cons, Region.seqB, Bool.and_eq_true, decide_eq_true_eq] at hB
    refine ⟨fun h1 => (by rw [hB.1] at h1; cases h1), fun i hi => ?_⟩
    rw [hB.1] at hi
    have hik : i = k := by simpa using hi
    subst hik
    have hw : aAt P base ops i (fun st' => aops P base ops (i + 1) l st' K) st := by unfold aAt; simp only [h0]; exact h
    exact aAt_mono (fun st' h' => aAny_of_seq l (i + 1) _ st' (fun j => by have := hl (j + 1); simpa [Nat.add_assoc, Nat.add_comm 1 j] using this) hB.2 h') hw

/-- The operations ahead, which leave memory alone. -/
def ahead (P : Program) (base : Nat) (ops : Array Oper) (m : Mem) : Nat → List Oper → List PV → (List PV → Prop) → Prop
  | _, [], ts, K => K ts
  | i, o :: rest, ts, K => aGuard ops o ts (aop P (base + 16 * i) o ⟨ts, m⟩ fun x m' => m' = m ∧ ahead P base ops m (i + 1) rest (putL ts o.dst x) K) (ahead P base ops m (i + 1) rest (putL ts o.dst (.b undef)) K)
theorem ahead_yld {m : Mem} {i : Nat} {rest : List Oper} {ts : List PV} {K : List PV → Prop} (h : ahead P base ops m i (o :: rest) ts K) : ∃ x, Yld P base ops m i o x ts ∧ ahead P base ops m (i + 1) rest (putL ts o.dst x) K := by
  unfold ahead aGuard at h
  split at h
  · exact h.elim
  · rename_i t hg
    cases t with
    | true =>
      obtain ⟨⟨x, m'⟩, ⟨rfl, h1⟩, h2⟩ := aop_tells (P := P) (base + 16 * i) (fun p => p.2 = m ∧ ahead P base ops m (i + 1) rest (putL ts o.dst p.1) K) (h.1 rfl)
      exact ⟨x, .inl ⟨hg, fun K' hK' => h2 (fun p => K' p.1 p.2) hK'⟩, h1⟩
    | false => exact ⟨_, .inr ⟨hg, rfl⟩, h.2 rfl⟩

theorem sAnyL_lex {m : Mem} {n g : Nat} {Lq : List PV → Prop}
    (hw : ∀ listed, HeadInv .any ops n listed → ∀ i, i < n → listed.getD i true = false → ∀ t, n ≤ t → t ∉ Region.ready .any ops listed) :
    ∀ (l : List Oper) (k : Nat) (listed : Array Bool) (ts : List PV), (∀ j, j < l.length → l[j]? = ops[k + j]?) → k + l.length = n → HeadInv .any ops n listed →
    Region.lexHead .any ops g l.length k listed = true → ahead P base ops m k l ts Lq →
    sAnyL P base ops m n (fun listed' ts' => Region.seqB .any ops g n listed' = true ∧ Lq ts') l.length listed ts
  | [], k, listed, ts, _, hk, _, hB, h => by
    have : k = n := by simpa using hk
    subst this
    exact ⟨by simpa [Region.lexHead] using hB, h⟩
  | o :: l, k, listed, ts, hl, hk, inv, hB, h => by
    have h0 : ops[k]? = some o := by simpa using (hl 0 (by simp)).symm
    simp only [List.length_cons, Region.lexHead, Bool.and_eq_true] at hB
    obtain ⟨⟨hr, hf⟩, hB'⟩ := hB
    have hkn : k < n := by simp only [List.length_cons] at hk; omega
    have hr' : k ∈ Region.ready .any ops listed := by simpa using hr
    obtain ⟨x, hy, hK⟩ := ahead_yld h
    exact sAnyL_first h0 hw hkn (fun listed' ts' hL => seqB_ready hL.1) l.length listed ts inv (Region.free_spec h0 hf) hr' hy
      (sAnyL_lex hw l (k + 1) _ _ (fun j hj => by have := hl (j + 1) (by simp; omega); simpa [Nat.add_assoc, Nat.add_comm 1 j] using this) (by simp only [List.length_cons] at hk; omega) (inv.set hr' hkn) hB' hK)

/-- What is asked of a region that draws its order: the first n operations may come as they will, the others come in their order. -/
def drawB (ops : Array Oper) (n : Nat) : Bool :=
  decide (n ≤ ops.size) && (n == ops.size || (Region.sinkB .any ops n && Region.chainB .any ops n)) && Region.lexHead .any ops (ops.size - n) n 0 (Array.replicate ops.size false)
def aDraw (P : Program) (base : Nat) (ops : Array Oper) (n : Nat) (st : St) (K : St → Prop) : Prop :=
  ahead P base ops st.mem 0 (ops.toList.take n) st.tmps fun ts => aops P base ops n (ops.toList.drop n) ⟨ts, st.mem⟩ K
theorem aDraw_any {n : Nat} {K : St → Prop} (hB : drawB ops n = true) (h : aDraw P base ops n st K) : aAny P base ops K ops.size (Array.replicate ops.size false) st := by
  simp only [drawB, Bool.and_eq_true, decide_eq_true_eq, Bool.or_eq_true, beq_iff_eq] at hB
  obtain ⟨⟨hn, hsc⟩, hlex⟩ := hB
  have hw : ∀ listed, HeadInv .any ops n listed → ∀ i, i < n → listed.getD i true = false → ∀ t, n ≤ t → t ∉ Region.ready .any ops listed := fun listed inv i hi hun t ht hr => by
    rcases hsc with rfl | ⟨hs, hc⟩
    · obtain ⟨_, ot, hot, _⟩ := mem_ready.1 hr
      have := (Array.getElem?_eq_some_iff.1 hot).1
      omega
    · by_cases hlt : n < ops.size
      · exact tail_waits hs hc hlt inv _ i rfl hi hun t ht hr
      · obtain ⟨_, ot, hot, _⟩ := mem_ready.1 hr
        have := (Array.getElem?_eq_some_iff.1 hot).1
        omega
  have htl : (ops.toList.take n).length = n := by simp; omega
  have hdl : (ops.toList.drop n).length = ops.size - n := by simp
  have inv0 : HeadInv .any ops n (Array.replicate ops.size false) :=
    ⟨by simp, fun j oj _ hl => (by rw [getD_replicate_false] at hl; cases hl), fun t _ ht => getD_in (by simpa using ht) (getD_replicate_false _ _)⟩
  have H := sAnyL_lex (P := P) (base := base) (g := ops.size - n) hw (ops.toList.take n) 0 _ st.tmps (fun j hj => by
    have hj' : j < n := by rw [htl] at hj; exact hj
    simp [hj']) (by simpa using htl) inv0 (by rw [htl]; exact hlex) h
  have := aAny_of_head (K := K) (g := ops.size - n) (fun listed ts hL => by
    have := aAny_of_seq (ops.toList.drop n) n listed ⟨ts, st.mem⟩ (fun j => by simp [List.getElem?_drop]) (by rw [hdl]; exact hL.1) hL.2
    rwa [hdl] at this) _ _ _ H
  rw [htl, show n + (ops.size - n) = ops.size by omega] at this
  exact this

end Go.Pv

/- The engine of this session, part 11: code, loops, what is forgotten. -/
set_option linter.unusedVariables false
set_option linter.unusedSimpArgs false
namespace Go.Pv
variable {P : Program} {R : Nat → Prop} {w0 w w' : World} {S0 : Nat → Prop} {φ φ' : Phi} {D D' : Nat → Prop} {mem : Mem} {st : St} {a : Act} {o : Oper} {Q : St → Exit → Prop} {ops : Array Oper}

def AfterW (P : Program) (R : Nat → Prop) (w0 : World) (S0 : Nat → Prop) (φ : Phi) (D : Nat → Prop) (w : World) (df : List Deferred) (K : St → Prop) (a' : Act) (w' : World) : Prop :=
  ∃ st' φ' D', K st' ∧ TrW R φ D w φ' D' w' ∧ MR P w0 S0 φ' D' st'.mem w' ∧ RVs P φ' D' w' st'.tmps a'.tmps ∧ a'.defers = df
theorem AfterW.trans {df : List Deferred} {K : St → Prop} {a' : Act} (ht : TrW R φ D w φ' D' w') {w2 : World} (h : AfterW P R w0 S0 φ' D' w' df K a' w2) : AfterW P R w0 S0 φ D w df K a' w2 := by
  obtain ⟨st', φ2, D2, h1, h2, h3, h4, h5⟩ := h
  exact ⟨st', φ2, D2, h1, ht.trans h2, h3, h4, h5⟩
theorem AfterW.of {df : List Deferred} {K : St → Prop} {a' : Act} {w2 : World} (h : After P w0 S0 φ D w df K a' w2) : AfterW P R w0 S0 φ D w df K a' w2 := by
  obtain ⟨st', φ2, D2, h1, h2, h3, h4, h5⟩ := h
  exact ⟨st', φ2, D2, h1, h2.weak (fun _ _ => trivial), h3, h4, h5⟩

/-- Code, run from what the abstract state tells, ends as Q tells. -/
def W (P : Program) (R : Nat → Prop) (c : Code) (st : St) (Q : St → Exit → Prop) : Prop :=
  ∀ (w0 : World) (S0 : Nat → Prop) (φ : Phi) (D : Nat → Prop) (w : World) (a : Act), MR P w0 S0 φ D st.mem w → RVs P φ D w st.tmps a.tmps → c.wp P (fun e a' w' => AfterW P R w0 S0 φ D w a.defers (fun s => Q s e) a' w') a w

theorem here {K : St → Prop} (h : K st) (hm : MR P w0 S0 φ D st.mem w) (ht : RVs P φ D w st.tmps a.tmps) : AfterW P R w0 S0 φ D w a.defers K a w := ⟨st, φ, D, h, TrW.refl .., hm, ht, rfl⟩
theorem W_skip (h : Q st .normal) : W P R .skip st Q := fun w0 S0 φ D w a hm ht => _root_.Go.wp_skip (here (K := fun s => Q s .normal) h hm ht)
theorem W_label {l : Nat} (h : Q st .normal) : W P R (.label l) st Q := fun w0 S0 φ D w a hm ht => wp_label (here (K := fun s => Q s .normal) h hm ht)
theorem W_exit {id : Nat} (h : Q st (.exit id)) : W P R (.exit id) st Q := fun w0 S0 φ D w a hm ht => wp_exit (here (K := fun s => Q s (.exit id)) h hm ht)
theorem W_ret (h : Q st .ret) : W P R .ret st Q := fun w0 S0 φ D w a hm ht => wp_ret (here (K := fun s => Q s .ret) h hm ht)
theorem W_mono {c : Code} {Q' : St → Exit → Prop} (h : W P R c st Q) (hq : ∀ s e, Q s e → Q' s e) : W P R c st Q' := fun w0 S0 φ D w a hm ht => wp_mono (h w0 S0 φ D w a hm ht) fun e a' w' ⟨s, φ2, D2, h1, h2⟩ => ⟨s, φ2, D2, hq _ _ h1, h2⟩
theorem W_seq {x y : Code} (h : W P R x st fun s e => match e with | .normal => W P R y s Q | e => Q s e) : W P R (.seq x y) st Q := fun w0 S0 φ D w a hm ht =>
  wp_seq (wp_mono (h w0 S0 φ D w a hm ht) fun e a' w' hA => by
    obtain ⟨s, φ2, D2, h1, h2, h3, h4, h5⟩ := hA
    cases e with
    | normal => exact wp_mono (h1 w0 S0 φ2 D2 w' a' h3 h4) fun e a2 w2 hA2 => AfterW.trans h2 (by rw [h5] at hA2; exact hA2)
    | _ => exact ⟨s, φ2, D2, h1, h2, h3, h4, h5⟩)
theorem W_cond {c : Operand} {x y : Code} {t : Bool} (hc : st.eval c = .b (.bool t)) (h1 : t = true → W P R x st Q) (h2 : t = false → W P R y st Q) : W P R (.cond c x y) st Q := fun w0 S0 φ D w a hm ht => by
  have hv := ht.eval c
  rw [hc] at hv
  generalize he : a.eval c = v at hv
  cases hv
  exact wp_cond_split he (fun e => h1 e w0 S0 φ D w a hm ht) (fun e => h2 e w0 S0 φ D w a hm ht)
theorem W_condB {c : Operand} {x y : Code} (hc : st.eval c = .anyB) (h1 : W P R x st Q) (h2 : W P R y st Q) : W P R (.cond c x y) st Q := fun w0 S0 φ D w a hm ht => by
  have hv := ht.eval c
  rw [hc] at hv
  generalize he : a.eval c = v at hv
  cases hv
  exact wp_cond_split he (fun _ => h1 w0 S0 φ D w a hm ht) (fun _ => h2 w0 S0 φ D w a hm ht)
theorem W_block {id : Nat} {c : Code} (h : W P R c st fun s e => match e with | .exit id' => if id' = id then Q s .normal else Q s (.exit id') | e => Q s e) : W P R (.block id c) st Q := fun w0 S0 φ D w a hm ht =>
  wp_block (wp_mono (h w0 S0 φ D w a hm ht) fun e a' w' hA => by
    obtain ⟨s, φ2, D2, h1, h2⟩ := hA
    cases e with
    | exit id' =>
      simp only [Exit.inBlock]
      by_cases hid : id' = id
      · rw [if_pos hid]; simp only [hid, if_true] at h1; exact ⟨s, φ2, D2, h1, h2⟩
      · rw [if_neg hid]; simp only [hid, if_false] at h1; exact ⟨s, φ2, D2, h1, h2⟩
    | _ => exact ⟨s, φ2, D2, h1, h2⟩)
theorem W_region {id base : Nat} (h : aops P base ops 0 ops.toList st fun s => Q s .normal) : W P R (.region id ops false) st Q := fun w0 S0 φ D w a hm ht =>
  wp_region_list (aops_sound ops.toList 0 st φ D w a h hm ht fun a' w' hA => AfterW.of hA)
theorem W_draw {id base n : Nat} (hf : P.follows .mixedOrders = true) (hB : drawB ops n = true) (h : aDraw P base ops n st fun s => Q s .normal) : W P R (.region id ops true) st Q := fun w0 S0 φ D w a hm ht =>
  wp_region_any hf (aAny_sound ops.size _ st φ D { w with drawn := w.drawn + 1 } a (aDraw_any hB h) hm.drew (ht.mono (Tr.drew ..)) fun a' w' hA => AfterW.of (After.trans (Tr.drew ..) hA))
theorem W_any {id base : Nat} (hf : P.follows .mixedOrders = true) (h : aAny P base ops (fun s => Q s .normal) ops.size (Array.replicate ops.size false) st) : W P R (.region id ops true) st Q := fun w0 S0 φ D w a hm ht =>
  wp_region_any hf (aAny_sound ops.size _ st φ D { w with drawn := w.drawn + 1 } a h hm.drew (ht.mono (Tr.drew ..)) fun a' w' hA => AfterW.of (After.trans (Tr.drew ..) hA))

/-- What s tells, t tells too. -/
def Weak (P : Program) (R : Nat → Prop) (s t : St) : Prop :=
  ∀ (w0 : World) (S0 : Nat → Prop) (φ : Phi) (D : Nat → Prop) (w : World) (vs : Array Value), MR P w0 S0 φ D s.mem w → RVs P φ D w s.tmps vs → ∃ φ' D', TrW R φ D w φ' D' w ∧ MR P w0 S0 φ' D' t.mem w ∧ RVs P φ' D' w t.tmps vs
theorem W_weak {c : Code} {t : St} (h : Weak P R st t) (hc : W P R c t Q) : W P R c st Q := fun w0 S0 φ D w a hm ht => by
  obtain ⟨φ', D', h1, h2, h3⟩ := h w0 S0 φ D w a.tmps hm ht
  exact wp_mono (hc w0 S0 φ' D' w a h2 h3) fun e a' w' hA => AfterW.trans h1 hA

theorem rounds_mono {c : Code} {Q Q' : Exit → Act → World → Prop} (hq : ∀ e a w, Q e a w → Q' e a w) : ∀ (n : Nat) (a : Act) (w : World), Code.rounds P c Q n a w → Code.rounds P c Q' n a w
  | 0, _, _, h => h.elim
  | n + 1, a, w, h => wp_mono h fun e a' w' h' => by
      cases e with
      | normal => exact rounds_mono hq n a' w' h'
      | _ => exact hq _ _ _ h'
theorem W_loop {α : Type} (Inv : α → St) (p : α → Prop) (μ : α → Nat) {c : Code} (x0 : α) (hw : Weak P R st (Inv x0)) (hp : p x0)
    (hb : ∀ x, p x → W P R c (Inv x) fun s e => match e with | .normal => ∃ y, p y ∧ μ y < μ x ∧ Weak P R s (Inv y) | e => Q s e) : W P R (.loop c) st Q := by
  have key : ∀ (n : Nat) (x : α), μ x < n → p x → ∀ (w0 : World) (S0 : Nat → Prop) (φ : Phi) (D : Nat → Prop) (w : World) (a : Act), MR P w0 S0 φ D (Inv x).mem w → RVs P φ D w (Inv x).tmps a.tmps →
      Code.rounds P c (fun e a' w' => AfterW P R w0 S0 φ D w a.defers (fun s => Q s e) a' w') n a w := by
    intro n
    induction n with
    | zero => intro x h; omega
    | succ n ih =>
      intro x hx hpx w0 S0 φ D w a hm ht
      refine wp_mono (hb x hpx w0 S0 φ D w a hm ht) fun e a' w' hA => ?_
      obtain ⟨s, φ2, D2, h1, h2, h3, h4, h5⟩ := hA
      cases e with
      | normal =>
        obtain ⟨y, hpy, hy, hwk⟩ := h1
        obtain ⟨φ3, D3, h6, h7, h8⟩ := hwk w0 S0 φ2 D2 w' a'.tmps h3 h4
        exact rounds_mono (fun e a2 w2 hA2 => AfterW.trans (h2.trans h6) (by rw [h5] at hA2; exact hA2)) n a' w' (ih y (by omega) hpy w0 S0 φ3 D3 w' a' h7 h8)
      | _ => exact ⟨s, φ2, D2, h1, h2, h3, h4, h5⟩
  intro w0 S0 φ D w a hm ht
  obtain ⟨φ1, D1, h1, h2, h3⟩ := hw w0 S0 φ D w a.tmps hm ht
  exact wp_mono (wp_loop_rounds (μ x0 + 1) (key _ x0 (by omega) hp w0 S0 φ1 D1 w a h2 h3)) fun e a' w' hA => AfterW.trans h1 hA

/-! ### What is seen of a value under other names -/

/-- What has no names in it. -/
def Cln (P : Program) (x : PV) : Prop := ∀ (φ φ' : Phi) (D : Nat → Prop) (w : World) (v : Value), RV P φ D w x v → RV P φ' D w x v
theorem Cln.b (v : Value) : Cln P (.b v) := fun φ φ' D w u h => by cases h; exact .b _
theorem Cln.anyB : Cln P .anyB := fun φ φ' D w u h => by cases h; exact .anyB _
theorem Cln.err : Cln P .err := fun φ φ' D w u h => by cases h; exact .err _ _
theorem Cln.any : Cln P .any := fun φ φ' D w u h => .any _
theorem Cln.val {n : Nat} {xs : List PV} (h : ∀ x ∈ xs, Cln P x) : Cln P (.val n xs) := fun φ φ' D w u hv => by
  cases hv with
  | val hn hd hc hx => exact .val hn hd hc fun j x hj => h x (List.mem_of_getElem? hj) _ _ _ _ _ (hx j x hj)
  | val0 => exact .val0
theorem Cln.eptr {xs : List PV} (h : ∀ x ∈ xs, Cln P x) : Cln P (.eptr xs) := fun φ φ' D w u hv => by
  cases hv with
  | eptr hd hc hx => exact .eptr hd hc fun j x hj => h x (List.mem_of_getElem? hj) _ _ _ _ _ (hx j x hj)

def vwC (P : Program) (κ : Nat → Option Nat) (mem : Mem) (x y : PV) : Prop :=
  match y with
  | .any => True
  | y => (match x with
    | .ref i o n => (match κ i with
      | some j => y = .ref j o n
      | none => (match mem i with | .row _ xs => (∀ z ∈ xs.drop o, Cln P z) ∧ y = .val n (xs.drop o) | _ => False))
    | .ptr i o => (match κ i with | some j => y = .ptr j o | none => False)
    | .b (.slice none 0 0) => y = .b (.slice none 0 0) ∨ (∃ j o, y = .ref j o 0) ∨ ∃ xs, y = .val 0 xs
    | x => Cln P x ∧ y = x)
theorem vwC_b {κ : Nat → Option Nat} {mem : Mem} (v : Value) : vwC P κ mem (.b v) (.b v) := by
  unfold vwC
  split
  · trivial
  · split
    · rename_i e; cases e
    · rename_i e; cases e
    · rename_i e; cases e; exact .inl rfl
    · exact ⟨Cln.b v, rfl⟩
def All2 (r : PV → PV → Prop) : List PV → List PV → Prop
  | [], [] => True
  | x :: xs, y :: ys => r x y ∧ All2 r xs ys
  | _, _ => False
theorem All2.spec {r : PV → PV → Prop} : ∀ {xs ys : List PV}, All2 r xs ys → xs.length = ys.length ∧ ∀ (j : Nat) (x y : PV), xs[j]? = some x → ys[j]? = some y → r x y
  | [], [], _ => ⟨rfl, by simp⟩
  | [], _ :: _, h => h.elim
  | _ :: _, [], h => h.elim
  | x :: xs, y :: ys, h => by
    obtain ⟨h1, h2⟩ := All2.spec h.2
    refine ⟨by simp [h1], fun j u v hu hv => ?_⟩
    cases j with
    | zero => simp at hu hv; subst hu; subst hv; exact h.1
    | succ j => exact h2 j u v (by simpa using hu) (by simpa using hv)
def vwA (P : Program) (κ : Nat → Option Nat) (mem : Mem) (x y : PV) : Prop :=
  match x, y with
  | .agg xs, .agg ys => All2 (vwC P κ mem) xs ys
  | x, y => vwC P κ mem x y
def vw (P : Program) (κ : Nat → Option Nat) (mem : Mem) (x y : PV) : Prop :=
  match x, y with
  | .tup xs, .tup ys => All2 (vwA P κ mem) xs ys
  | x, y => vwA P κ mem x y

/-- Names and unwritten rows as they are seen. -/
structure Seen (mem : Mem) (φ : Phi) (D : Nat → Prop) (κ : Nat → Option Nat) (φ' : Phi) (D' : Nat → Prop) : Prop where
  name : ∀ i j b, κ i = some j → φ i = some b → φ' j = some b
  dd : ∀ b, D b → D' b
  rows : ∀ i t xs b, κ i = none → mem i = .row t xs → φ i = some b → D' b

theorem Seen.tr {κ : Nat → Option Nat} (h : Seen mem φ D κ φ' D') (x : PV) (hx : Cln P x) {v : Value} (hv : RV P φ D w x v) : RV P φ' D' w x v := by
  have h1 : RV P φ D' w x v := hv.mono0 (fun _ _ h => h) h.dd (fun _ _ => rfl) (fun _ cs _ h => ⟨cs, h, rfl⟩)
  exact hx _ _ _ _ _ h1

theorem vwC_spec {κ : Nat → Option Nat} (hs : Seen mem φ D κ φ' D') (hm : MR P w0 S0 φ D mem w) {x y : PV} {v : Value} (h : vwC P κ mem x y) (hv : RV P φ D w x v) : RV P φ' D' w y v := by
  unfold vwC at h
  split at h
  · exact .any _
  · split at h
    · rename_i i off n
      split at h
      · rename_i j hk
        subst h
        cases hv with
        | ref hb hn hr => exact .ref (hs.name _ _ _ hk hb) hn hr
        | nil => exact .nil
        | ref0 hne => exact .ref0 hne
      · rename_i hk
        split at h
        · rename_i t xs hrow
          obtain ⟨hcl, rfl⟩ := h
          cases hv with
          | @ref _ _ _ bl c hb hn hr =>
            obtain ⟨cs, hra⟩ := hm.rowAt hrow hb
            refine .val (f := fun j => cs.getD (off + j) undef) hn (hs.rows _ _ _ _ hk hrow hb) (fun j x hj => ?_) (fun j x hj => hs.tr x (hcl x (List.mem_of_getElem? hj)) ?_)
            · rw [cell_at hra.heap]
              rw [List.getElem?_drop] at hj
              have : off + j < cs.size := Nat.lt_of_lt_of_le (List.getElem?_eq_some_iff.1 hj).1 hra.len
              simp [this]
            · rw [List.getElem?_drop] at hj; exact hra.cells _ _ hj
          | nil => exact .val0
          | ref0 hne => exact .val0
        · exact h.elim
    · rename_i i off
      split at h
      · rename_i j hk
        subst h
        cases hv with
        | ptr hb => exact .ptr (hs.name _ _ _ hk hb)
      · exact h.elim
    · cases hv
      rcases h with rfl | ⟨j, o, rfl⟩ | ⟨xs, rfl⟩
      · exact .b _
      · exact .nil
      · exact .val0
    · obtain ⟨hc, rfl⟩ := h
      exact hs.tr _ hc hv
theorem vwA_spec {κ : Nat → Option Nat} (hs : Seen mem φ D κ φ' D') (hm : MR P w0 S0 φ D mem w) {x y : PV} {v : Value} (h : vwA P κ mem x y) (hv : RV P φ D w x v) : RV P φ' D' w y v := by
  unfold vwA at h
  split at h
  · obtain ⟨hl, hx⟩ := h.spec
    cases hv with
    | agg hl2 hx2 =>
      exact .agg (hl2.trans hl) fun j y hj => by
        have hlt := (List.getElem?_eq_some_iff.1 hj).1
        exact vwC_spec hs hm (hx j _ y (List.getElem?_eq_getElem (by omega)) hj) (hx2 j _ (List.getElem?_eq_getElem (by omega)))
  · exact vwC_spec hs hm h hv
theorem vw_spec {κ : Nat → Option Nat} (hs : Seen mem φ D κ φ' D') (hm : MR P w0 S0 φ D mem w) {x y : PV} {v : Value} (h : vw P κ mem x y) (hv : RV P φ D w x v) : RV P φ' D' w y v := by
  unfold vw at h
  split at h
  · obtain ⟨hl, hx⟩ := h.spec
    cases hv with
    | tup hl2 hx2 =>
      exact .tup (hl2.trans hl) fun j y hj => by
        have hlt := (List.getElem?_eq_some_iff.1 hj).1
        exact vwA_spec hs hm (hx j _ y (List.getElem?_eq_getElem (by omega)) hj) (hx2 j _ (List.getElem?_eq_getElem (by omega)))
  · exact vwA_spec hs hm h hv
theorem vws_spec {κ : Nat → Option Nat} (hs : Seen mem φ D κ φ' D') (hm : MR P w0 S0 φ D mem w) {xs ys : List PV} {vs : Array Value} (h : All2 (vw P κ mem) xs ys) (hv : RVs P φ D w xs vs) : RVs P φ' D' w ys vs := by
  obtain ⟨hl, hx⟩ := h.spec
  refine ⟨hv.1.trans hl, fun j y hj => ?_⟩
  have hlt := (List.getElem?_eq_some_iff.1 hj).1
  exact vw_spec hs hm (hx j _ y (List.getElem?_eq_getElem (by omega)) hj) (hv.2 j _ (List.getElem?_eq_getElem (by omega)))

/-- Memory that is told by a list. -/
def memOf : List (Nat × TypeId × List PV) → Mem
  | [] => fun _ => .free
  | (i, t, xs) :: l => upd (memOf l) i (.row t xs)
/-- Which old name goes on under which new one. -/
structure Kept where
  old : Nat
  new : Nat
  t : TypeId
  xs : List PV
def kap : List Kept → Nat → Option Nat
  | [], _ => none
  | e :: E, i => if i = e.old then some e.new else kap E i
def kapInv : List Kept → Nat → Option Nat
  | [], _ => none
  | e :: E, j => if j = e.new then some e.old else kapInv E j
theorem kap_mem : ∀ {E : List Kept} {i j : Nat}, kap E i = some j → ∃ e ∈ E, e.old = i ∧ e.new = j
  | [], _, _, h => by cases h
  | e :: E, i, j, h => by
    unfold kap at h
    split at h
    · rename_i hi; cases h; exact ⟨e, List.mem_cons_self .., hi.symm, rfl⟩
    · obtain ⟨e', h1, h2⟩ := kap_mem h; exact ⟨e', List.mem_cons_of_mem _ h1, h2⟩
theorem kapInv_mem : ∀ {E : List Kept} {i j : Nat}, kapInv E j = some i → ∃ e ∈ E, e.old = i ∧ e.new = j
  | [], _, _, h => by cases h
  | e :: E, i, j, h => by
    unfold kapInv at h
    split at h
    · rename_i hi; cases h; exact ⟨e, List.mem_cons_self .., rfl, hi.symm⟩
    · obtain ⟨e', h1, h2⟩ := kapInv_mem h; exact ⟨e', List.mem_cons_of_mem _ h1, h2⟩
theorem kapInv_of : ∀ {E : List Kept} {e : Kept}, (E.map (·.new)).Nodup → e ∈ E → kapInv E e.new = some e.old
  | e' :: E, e, hn, h => by
    simp only [List.map_cons, List.nodup_cons] at hn
    unfold kapInv
    cases h with
    | head => simp
    | tail _ h =>
      have : e.new ≠ e'.new := fun he => hn.1 (by rw [← he]; exact List.mem_map_of_mem h)
      rw [if_neg this]
      exact kapInv_of hn.2 h
theorem kap_of : ∀ {E : List Kept} {e : Kept}, (E.map (·.old)).Nodup → e ∈ E → kap E e.old = some e.new
  | e' :: E, e, hn, h => by
    simp only [List.map_cons, List.nodup_cons] at hn
    unfold kap
    cases h with
    | head => simp
    | tail _ h =>
      have : e.old ≠ e'.old := fun he => hn.1 (by rw [← he]; exact List.mem_map_of_mem h)
      rw [if_neg this]
      exact kap_of hn.2 h
def keptMem (E : List Kept) : Mem := memOf (E.map fun e => (e.new, e.t, e.xs))
theorem keptMem_row : ∀ {E : List Kept} {j : Nat} {t : TypeId} {xs : List PV}, keptMem E j = .row t xs → ∃ e ∈ E, e.new = j ∧ e.t = t ∧ e.xs = xs
  | [], j, t, xs, h => by cases h
  | e :: E, j, t, xs, h => by
    simp only [keptMem, List.map_cons, memOf, upd] at h
    split at h
    · rename_i hj; cases h; exact ⟨e, List.mem_cons_self .., hj.symm, rfl, rfl⟩
    · obtain ⟨e', h1, h2⟩ := keptMem_row (E := E) h; exact ⟨e', List.mem_cons_of_mem _ h1, h2⟩
theorem keptMem_free : ∀ {E : List Kept} {j : Nat}, keptMem E j = .free → ∀ e ∈ E, e.new ≠ j
  | [], j, h => by simp
  | e :: E, j, h => by
    simp only [keptMem, List.map_cons, memOf, upd] at h
    split at h
    · cases h
    · rename_i hj
      intro e' he'
      cases he' with
      | head => exact Ne.symm hj
      | tail _ he' => exact keptMem_free (E := E) h e' he'

/-- To go on with what is wanted alone. -/
theorem Weak.intro {s t : St} (E : List Kept) (h1 : (E.map (·.old)).Nodup) (h2 : (E.map (·.new)).Nodup) (h3 : ∀ e ∈ E, ∃ xs, s.mem e.old = .row e.t xs ∧ All2 (vwC P (kap E) s.mem) xs e.xs)
    (h4 : t.mem = keptMem E) (h5 : All2 (vw P (kap E) s.mem) s.tmps t.tmps) (hR : ∀ i, R i → kap E i = some i) : Weak P R s t := by
  intro w0 S0 φ D w vs hm hv
  let φ2 : Phi := fun j => (kapInv E j).bind φ
  let D2 : Nat → Prop := fun b => D b ∨ ∃ i t xs, kap E i = none ∧ s.mem i = .row t xs ∧ φ i = some b
  have hname : ∀ i j b, kap E i = some j → φ i = some b → φ2 j = some b := fun i j b hk hb => by
    obtain ⟨e, he, rfl, rfl⟩ := kap_mem hk
    show (kapInv E e.new).bind φ = some b
    rw [kapInv_of h2 he]
    exact hb
  have hs : Seen s.mem φ D (kap E) φ2 D2 := ⟨hname, fun b h => .inl h, fun i t xs b hk hi hb => .inr ⟨i, t, xs, hk, hi, hb⟩⟩
  refine ⟨φ2, D2, ⟨fun i b hRi hb => hname i i b (hR i hRi) hb, fun b h => .inl h, fun _ _ => rfl, fun _ cs _ h => ⟨cs, h, rfl⟩, Nat.le_refl _, fun b hb => ?_, fun j b hb => ?_⟩, ⟨hm.os, hm.tape, hm.output, hm.size, hm.keep, ?_, ?_, ?_, ?_, hm.gl.tr (fun _ h => .inl h) fun _ _ => rfl⟩, vws_spec hs hm h5 hv⟩
  · rcases hb with h | ⟨i, _, _, _, _, h⟩
    · exact .inl h
    · exact .inr (.inr ⟨i, h⟩)
  · cases hk : kapInv E j with
    | none => simp [φ2, hk] at hb
    | some i => simp [φ2, hk] at hb; exact .inr ⟨i, hb⟩
  · intro j ty ys hj
    rw [h4] at hj
    obtain ⟨e, he, rfl, rfl, rfl⟩ := keptMem_row hj
    obtain ⟨xs, hx, hall⟩ := h3 e he
    obtain ⟨hl, hxy⟩ := hall.spec
    have hki : kapInv E e.new = some e.old := kapInv_of h2 he
    rcases hm.row e.old e.t xs hx with ⟨h0, hn⟩ | ⟨bl, cs, hr⟩
    · subst h0
      refine .inl ⟨List.eq_nil_of_length_eq_zero hl.symm, ?_⟩
      show (kapInv E e.new).bind φ = none
      rw [hki]; exact hn
    · refine .inr ⟨bl, cs, ?_, hr.heap, by rw [← hl]; exact hr.len, fun q y hq => ?_, ?_, hr.new⟩
      · show (kapInv E e.new).bind φ = some bl
        rw [hki]; exact hr.phi
      · have hlt := (List.getElem?_eq_some_iff.1 hq).1
        exact vwC_spec hs hm (hxy q _ y (List.getElem?_eq_getElem (by omega)) hq) (hr.cells q _ (List.getElem?_eq_getElem (by omega)))
      · rintro (h | ⟨i, t', xs', hk, hi, hb⟩)
        · exact hr.own h
        · have := hm.inj i e.old _ _ _ _ bl hi hx hb hr.phi
          subst this
          rw [kap_of h1 he] at hk
          cases hk
  · intro j k t1 xs1 t2 xs2 b hj hk hbj hbk
    rw [h4] at hj hk
    obtain ⟨e, he, rfl, _, _⟩ := keptMem_row hj
    obtain ⟨e', he', rfl, _, _⟩ := keptMem_row hk
    obtain ⟨xs, hx, _⟩ := h3 e he
    obtain ⟨xs', hx', _⟩ := h3 e' he'
    have b1 : φ e.old = some b := by have : (kapInv E e.new).bind φ = some b := hbj; rw [kapInv_of h2 he] at this; exact this
    have b2 : φ e'.old = some b := by have : (kapInv E e'.new).bind φ = some b := hbk; rw [kapInv_of h2 he'] at this; exact this
    have hoo := hm.inj _ _ _ _ _ _ b hx hx' b1 b2
    have := kap_of h1 he
    rw [hoo, kap_of h1 he'] at this
    exact (Option.some.inj this).symm
  · rintro b (h | ⟨i, t', xs', _, hi, hb⟩)
    · exact hm.dlt b h
    · exact hm.phi_lt hi hb
  · intro j hj
    rw [h4] at hj
    show (kapInv E j).bind φ = none
    cases hk : kapInv E j with
    | none => rfl
    | some i =>
      obtain ⟨e, he, _, hn⟩ := kapInv_mem hk
      exact absurd hn (keptMem_free hj e he)

theorem Weak.trans {s t u : St} (h : Weak P R s t) (k : Weak P R t u) : Weak P R s u := fun w0 S0 φ D w vs hm hv => by
  obtain ⟨φ1, D1, h1, h2, h3⟩ := h w0 S0 φ D w vs hm hv
  obtain ⟨φ2, D2, h4, h5, h6⟩ := k w0 S0 φ1 D1 w vs h2 h3
  exact ⟨φ2, D2, h1.trans h4, h5, h6⟩
/-- An empty row more. -/
theorem Weak.none {ts : List PV} {m : Mem} {k : Nat} {t : TypeId} (hk : m k = .free) : Weak P R ⟨ts, m⟩ ⟨ts, upd m k (.row t [])⟩ := fun w0 S0 φ D w vs hm hv =>
  ⟨φ, D, TrW.refl .., hm.none t hk, hv⟩
/-- The same memory. -/
theorem Weak.keep {s t : St} (h4 : t.mem = s.mem) (h5 : All2 (vw P some s.mem) s.tmps t.tmps) : Weak P R s t := fun w0 S0 φ D w vs hm hv =>
  ⟨φ, D, TrW.refl .., by rw [h4]; exact hm, vws_spec (κ := some) ⟨fun i j b h hb => by cases h; exact hb, fun _ h => h, fun i t xs b h => by cases h⟩ hm h5 hv⟩
end Go.Pv

/- The engine of this session, part 12: functions and calls. -/
set_option linter.unusedVariables false
set_option linter.unusedSimpArgs false
namespace Go.Pv
variable {P : Program} {R : Nat → Prop} {w0 w w' : World} {S0 : Nat → Prop} {φ φ' : Phi} {D D' : Nat → Prop} {mem : Mem} {st : St} {a : Act}

def aResV (P : Program) (st : St) (r : ResultVar) (K : PV → Prop) : Prop :=
  match r with
  | .tmp t => K (st.tmps.getD t (.b undef))
  | .cell p t => aLoad P t (st.tmps.getD p (.b undef)) st.mem K
def aRess (P : Program) (st : St) : List ResultVar → (List PV → Prop) → Prop
  | [], K => K []
  | r :: rs, K => aResV P st r fun x => aRess P st rs fun xs => K (x :: xs)
def oneOf : List PV → PV
  | [x] => x
  | xs => .tup xs
def aRes (P : Program) (fn : Func) (st : St) (K : PV → Prop) : Prop := aRess P st fn.results.toList fun xs => K (oneOf xs)

theorem ptr_of_aLoad {t : TypeId} {p : PV} {v : Value} {K : PV → Prop} (h : aLoad P t p mem K) (hv : RV P φ D w p v) : ∃ ad, v = .pointer (some ad) := by
  unfold aLoad at h
  split at h
  · exact h.elim
  · split at h
    · cases hv; exact ⟨_, rfl⟩
    · cases hv; exact ⟨_, rfl⟩
    · exact h.elim
theorem ress_sound (hm : MR P w0 S0 φ D st.mem w) (ht : RVs P φ D w st.tmps a.tmps) : ∀ (rs : List ResultVar) (K : List PV → Prop), aRess P st rs K →
    ∃ (vs : List Value) (xs : List PV), (rs.mapM (m := Sem) fun | .tmp t => pure (a.tmps.getD t undef) | .cell p t => do loadVar t (← asAddr (a.tmps.getD p undef))).run P w = .ok vs w ∧ vs.length = xs.length ∧ (∀ j x, xs[j]? = some x → RV P φ D w x (vs.getD j undef)) ∧ K xs
  | [], K, h => ⟨[], [], by simp, rfl, by simp, h⟩
  | r :: rs, K, h => by
    unfold aRess aResV at h
    have one : ∀ {x : PV} {v : Value}, RV P φ D w x v → aRess P st rs (fun xs => K (x :: xs)) → (match r with | .tmp t => (pure (a.tmps.getD t undef) : Sem Value) | .cell p t => do loadVar t (← asAddr (a.tmps.getD p undef))).run P w = .ok v w →
        ∃ (vs : List Value) (xs : List PV), ((r :: rs).mapM (m := Sem) fun | .tmp t => pure (a.tmps.getD t undef) | .cell p t => do loadVar t (← asAddr (a.tmps.getD p undef))).run P w = .ok vs w ∧ vs.length = xs.length ∧ (∀ j x, xs[j]? = some x → RV P φ D w x (vs.getD j undef)) ∧ K xs := fun {x v} hx hr hrun => by
      obtain ⟨vs, xs, h1, h2, h3, h4⟩ := ress_sound hm ht rs _ hr
      refine ⟨v :: vs, x :: xs, ?_, by simp [h2], fun j y hj => ?_, h4⟩
      · rw [List.mapM_cons, Sem.run_bind]
        rw [hrun]
        simp only [Result.andThen_ok, Sem.run_bind]
        rw [h1]
        rfl
      · cases j with
        | zero => simp at hj; subst hj; exact hx
        | succ j => simpa using h3 j y (by simpa using hj)
    cases r with
    | tmp t =>
      have hx : RV P φ D w (st.tmps.getD t (.b undef)) (a.tmps.getD t undef) := ht.eval (.tmp t)
      exact one hx h (by simp)
    | cell p t =>
      have hx : RV P φ D w (st.tmps.getD p (.b undef)) (a.tmps.getD p undef) := ht.eval (.tmp p)
      obtain ⟨ad, had⟩ := ptr_of_aLoad h hx
      obtain ⟨u, x, h1, h2, h3⟩ := load_sound hm hx h
      refine one h2 h3 ?_
      simp only [Instr.loadAt, had, Instr.sureAddr, Sem.run_bind, Sem.run_pure, Result.andThen_ok] at h1
      simp only [had, asAddr, Sem.run_bind, Sem.run_pure, Result.andThen_ok, h1]
theorem results_sound {fn : Func} {K : PV → Prop} (h : aRes P fn st K) (hm : MR P w0 S0 φ D st.mem w) (ht : RVs P φ D w st.tmps a.tmps) : ∃ v x, (results fn a.tmps).run P w = .ok v w ∧ RV P φ D w x v ∧ K x := by
  obtain ⟨vs, xs, h1, h2, h3, h4⟩ := ress_sound hm ht _ _ h
  have hrun : (fn.results.mapM (m := Sem) fun | .tmp t => pure (a.tmps.getD t undef) | .cell p t => do loadVar t (← asAddr (a.tmps.getD p undef))).run P w = .ok vs.toArray w := by
    rw [Array.mapM_eq_mapM_toList, Sem.run_map]
    rw [h1]
    rfl
  refine ⟨if h : vs.length = 1 then vs[0] else .tuple vs.toArray, oneOf xs, ?_, ?_, h4⟩
  · unfold results
    rw [Sem.run_bind]
    refine (congrArg (fun r : Result (Array Value) => r.andThen _) hrun).trans ?_
    simp
  · by_cases hl : vs.length = 1
    · rw [dif_pos hl]
      rw [hl] at h2
      cases xs with
      | nil => simp at h2
      | cons x xs => cases xs with
        | nil =>
          have := h3 0 x rfl
          have e : vs.getD 0 undef = vs[0] := by simp [List.getD_eq_getElem?_getD, hl]
          rw [e] at this
          exact this
        | cons y ys => simp at h2
    · rw [dif_neg hl]
      have hne : oneOf xs = .tup xs := by
        cases xs with
        | nil => rfl
        | cons x xs => cases xs with
          | nil => simp at h2; exact absurd h2 hl
          | cons y ys => rfl
      rw [hne]
      refine .tup (by simp [h2]) (fun j x hj => ?_)
      have := h3 j x hj
      rw [List.getD_eq_getElem?_getD] at this
      simpa using this

def startSt (fn : Func) (args : List PV) (mem : Mem) : St := ⟨args ++ List.replicate (fn.ntmps - args.length) (.b undef), mem⟩
theorem start_RVs {fn : Func} {args : List PV} {vs : Array Value} (h : RVs P φ D w args vs) : RVs P φ D w (startSt fn args mem).tmps (vs ++ Array.replicate (fn.ntmps - vs.size) undef) := by
  refine ⟨by simp [startSt, h.1], fun j x hj => ?_⟩
  simp only [startSt] at hj
  by_cases hlt : j < args.length
  · rw [List.getElem?_append_left hlt] at hj
    have h1 := h.2 j x hj
    have : j < vs.size := by rw [h.1]; exact hlt
    rw [Array.getD_eq_getD_getElem?, Array.getElem?_append_left this, ← Array.getD_eq_getD_getElem?]
    exact h1
  · rw [List.getElem?_append_right (by omega)] at hj
    have hx : x = .b undef := by
      have := List.getElem?_replicate (a := PV.b undef) (n := fn.ntmps - args.length) (i := j - args.length)
      rw [this] at hj
      split at hj
      · exact (Option.some.inj hj).symm
      · cases hj
    subst hx
    rw [Array.getD_eq_getD_getElem?, Array.getElem?_append_right (by rw [h.1]; omega), Array.getElem?_replicate]
    split <;> exact .b _

/-- The end of a function. -/
def isEnd : Exit → Prop
  | .normal | .ret => True
  | _ => False
def Ends (P : Program) (fn : Func) (K : PV → Mem → Prop) : St → Exit → Prop := fun s e => isEnd e ∧ aRes P fn s fun x => K x s.mem

theorem calls_of_W {f : FuncId} {fn : Func} {c : Code} {args : List PV} {vs : Array Value} {K : PV → Mem → Prop} {S : Ending → World → Prop} (hf : P.funcs[f]? = some fn) (hb : fn.body = some c) (hm : MR P w0 S0 φ D mem w) (ha : RVs P φ D w args vs)
    (h : W P R c (startSt fn args mem) (Ends P fn K)) (hS : ∀ v x mem' φ' D' w', K x mem' → TrW R φ D w φ' D' w' → MR P w0 S0 φ' D' mem' w' → RV P φ' D' w' x v → S (.returned v) w') : Calls P f vs w S := by
  refine calls_of_wp hf hb ?_
  refine wp_mono (h w0 S0 φ D w ⟨vs ++ Array.replicate (fn.ntmps - vs.size) undef, []⟩ hm (start_RVs ha)) fun e a' w' hA => ?_
  obtain ⟨s, φ2, D2, ⟨h0, h1⟩, h2, h3, h4, h5⟩ := hA
  obtain ⟨v, x, h6, h7, h8⟩ := results_sound h1 h3 h4
  cases e <;> first | exact h0.elim | exact ⟨h5, v, h6, hS _ _ _ _ _ _ h8 h2 h3 h7⟩

/-- A call whose body is run in the caller's own memory. -/
theorem CallM.run {f : FuncId} {fn : Func} {c : Code} {args : List PV} {K : PV → Mem → Prop} (hf : P.funcs[f]? = some fn) (hb : fn.body = some c) (h : W P (fun _ => True) c (startSt fn args mem) (Ends P fn K)) : CallM P f args mem K :=
  fun w0 S0 φ D w vs hm ha => calls_of_W hf hb hm ha h fun v x mem' φ' D' w' h1 h2 h3 h4 => ⟨v, x, mem', φ', D', rfl, h1, h2, h3, h4⟩

/-- Rows by their number. -/
def rowsAt (k : Nat) : List (TypeId × List PV) → Mem → Mem
  | [], m => m
  | (t, xs) :: l, m => upd (rowsAt (k + 1) l m) k (.row t xs)
abbrev noMem : Mem := fun _ => .free
abbrev noPhi : Phi := fun _ => none

/-- WHAT A FUNCTION TELLS: of arguments that nobody writes, in whatever world, it returns r, whose own rows are these. -/
def Ok (P : Program) (f : FuncId) (args : List PV) (r : PV) (rows : List (TypeId × List PV)) : Prop :=
  ∀ (D : Nat → Prop) (w : World) (vs : Array Value), (∀ b, D b → b < w.heap.size) → GL P D w → RVs P noPhi D w args vs →
    Calls P f vs w fun e w' => ∃ (v : Value) (φ' : Phi) (D' : Nat → Prop), e = .returned v ∧ TrW (fun _ => False) noPhi D w φ' D' w' ∧ MR P w (fun _ => False) φ' D' (rowsAt 0 rows noMem) w' ∧ RV P φ' D' w' r v

/-- What a function hands out, as its caller will see it. -/
def Out (P : Program) (r : PV) (rows : List (TypeId × List PV)) (x : PV) (m : Mem) : Prop := Weak P (fun _ => False) ⟨[x], m⟩ ⟨[r], rowsAt 0 rows noMem⟩
theorem MR.start (hD : ∀ b, D b → b < w.heap.size) (hg : GL P D w) : MR P w (fun _ => False) noPhi D noMem w :=
  ⟨rfl, rfl, rfl, Nat.le_refl _, fun _ _ _ => rfl, fun _ _ _ h => (by cases h), fun _ _ _ _ _ _ _ h => (by cases h), hD, fun _ _ => rfl, hg⟩
theorem Ok.of_W {f : FuncId} {fn : Func} {c : Code} {args : List PV} {r : PV} {rows : List (TypeId × List PV)} (hf : P.funcs[f]? = some fn) (hb : fn.body = some c)
    (h : W P (fun _ => False) c (startSt fn args noMem) (Ends P fn (Out P r rows))) : Ok P f args r rows := fun D w vs hD hg ha =>
  calls_of_W hf hb (MR.start hD hg) ha h fun v x mem' φ' D' w' h1 h2 h3 h4 => by
    obtain ⟨φ2, D2, h5, h6, h7⟩ := h1 w (fun _ => False) φ' D' w' #[v] h3 ⟨rfl, fun j y hj => by
      cases j with
      | zero => simp at hj; subst hj; exact h4
      | succ j => simp at hj⟩
    exact ⟨v, φ2, D2, rfl, h2.trans h5, h6, h7.2 0 r rfl⟩
/-- Flat answers go out as they are. -/
theorem Out.flat {v : Value} {m : Mem} : Out P (.b v) [] (.b v) m :=
  Weak.intro [] (by simp) (by simp) (by simp) (by rfl) ⟨(show vwC P (kap []) m (.b v) (.b v) from vwC_b v), trivial⟩ (fun _ h => h.elim)

/-! ### A call by value -/
def shC (key : Nat) : PV → PV
  | .ref i o n => .ref (key + i) o n
  | .ptr i o => .ptr (key + i) o
  | x => x
def shA (key : Nat) : PV → PV
  | .agg xs => .agg (xs.map (shC key))
  | x => shC key x
def sh (key : Nat) : PV → PV
  | .tup xs => .tup (xs.map (shA key))
  | x => shA key x
/-- What has no unwritten rows of others in it; in depth what has nothing but names. -/
def ownC : PV → Bool
  | .b _ | .ref .. | .ptr .. | .err | .anyB | .any => true
  | _ => false
def ownA : PV → Bool
  | .agg xs => xs.all ownC
  | x => ownC x
def ownV : PV → Bool
  | .tup xs => xs.all ownA
  | x => ownA x
/-- A cell of a row or an answer: no struct in it. -/
def cellLike : PV → Bool
  | .agg _ | .tup _ => false
  | _ => true

/-- The names of a call's own rows, in the caller's memory. -/
def phi3 (key n : Nat) (φ φ2 : Phi) : Phi := fun j => if key ≤ j ∧ j < key + n then φ2 (j - key) else φ j
theorem shC_spec {key n : Nat} {φ2 : Phi} {D2 D3 : Nat → Prop} (hφ : ∀ i, n ≤ i → φ2 i = none) {x : PV} {v : Value} (hv : RV P φ2 D2 w x v) (hx : Cln P x ∧ (∀ b, D2 b → D3 b) ∨ ownC x = true) (hc : (∃ i o k, x = .ref i o k) ∨ (∃ i o, x = .ptr i o) ∨ Cln P x) : RV P (phi3 key n φ φ2) D3 w (shC key x) v := by
  have nm : ∀ i b, φ2 i = some b → phi3 key n φ φ2 (key + i) = some b := fun i b hb => by
    have hi : i < n := by
      rcases Nat.lt_or_ge i n with h | h
      · exact h
      · rw [hφ i h] at hb; cases hb
    unfold phi3
    rw [if_pos (by omega)]
    rw [Nat.add_sub_cancel_left]
    exact hb
  cases hv with
  | ptr hb => exact .ptr (nm _ _ hb)
  | ref hb hn hr => exact .ref (nm _ _ hb) hn hr
  | nil => exact .nil
  | ref0 h => exact .ref0 h
  | b v => exact .b v
  | any v => exact .any v
  | err t p => exact .err t p
  | anyB b => exact .anyB b
  | val hn hd hcell h =>
    rcases hx with ⟨h1, h2⟩ | h1
    · exact h1 _ _ _ _ _ (RV.mono0 (fun _ _ h => h) h2 (fun _ _ => rfl) (fun _ cs _ h => ⟨cs, h, rfl⟩) (RV.val hn hd hcell h))
    · cases h1
  | val0 => exact .val0
  | eptr hd hcell h =>
    rcases hx with ⟨h1, h2⟩ | h1
    · exact h1 _ _ _ _ _ (RV.mono0 (fun _ _ h => h) h2 (fun _ _ => rfl) (fun _ cs _ h => ⟨cs, h, rfl⟩) (RV.eptr hd hcell h))
    · cases h1
  | agg hl h =>
    rcases hx with ⟨h1, h2⟩ | h1
    · exact h1 _ _ _ _ _ (RV.mono0 (fun _ _ h => h) h2 (fun _ _ => rfl) (fun _ cs _ h => ⟨cs, h, rfl⟩) (RV.agg hl h))
    · cases h1
  | tup hl h =>
    rcases hx with ⟨h1, h2⟩ | h1
    · exact h1 _ _ _ _ _ (RV.mono0 (fun _ _ h => h) h2 (fun _ _ => rfl) (fun _ cs _ h => ⟨cs, h, rfl⟩) (RV.tup hl h))
    · cases h1

theorem shA_spec {key n : Nat} {φ2 : Phi} {D2 D3 : Nat → Prop} (hφ : ∀ i, n ≤ i → φ2 i = none) {x : PV} {v : Value} (hv : RV P φ2 D2 w x v) (hx : (∀ b, D2 b → D3 b) ∨ ownA x = true) (hc : ∀ xs, x = .agg xs → ∀ z ∈ xs, ∀ (D : Nat → Prop) (u : Value), RV P φ2 D w z u → (∀ b, D b → D3 b) ∨ ownC z = true → RV P (phi3 key n φ φ2) D3 w (shC key z) u)
    (h0 : (∀ xs, x ≠ .agg xs) → ∀ (D : Nat → Prop) (u : Value), RV P φ2 D w x u → (∀ b, D b → D3 b) ∨ ownC x = true → RV P (phi3 key n φ φ2) D3 w (shC key x) u) : RV P (phi3 key n φ φ2) D3 w (shA key x) v := by
  unfold shA
  split
  · rename_i xs
    cases hv with
    | agg hl h =>
      refine .agg (by simp [hl]) (fun j y hj => ?_)
      simp at hj
      obtain ⟨z, hz, rfl⟩ := hj
      refine hc xs rfl z (List.mem_of_getElem? hz) _ _ (h j z hz) ?_
      rcases hx with h1 | h1
      · exact .inl h1
      · exact .inr (List.all_eq_true.1 h1 z (List.mem_of_getElem? hz))
  · rename_i hne
    refine h0 (fun xs e => hne xs e) _ _ hv ?_
    rcases hx with h1 | h1
    · exact .inl h1
    · refine .inr ?_
      cases x <;> first | exact h1 | exact absurd rfl (hne _)

end Go.Pv

/- The engine of this session, part 13: a call by value. -/
set_option linter.unusedVariables false
set_option linter.unusedSimpArgs false
namespace Go.Pv
variable {P : Program} {R : Nat → Prop} {w0 w w' : World} {S0 : Nat → Prop} {φ φ' : Phi} {D D' : Nat → Prop} {mem : Mem} {st : St} {a : Act}

def HOk (P : Program) (x : PV) : Prop := (∃ i o n, x = .ref i o n) ∨ (∃ i o, x = .ptr i o) ∨ Cln P x
def AOk (P : Program) : PV → Prop
  | .agg xs => ∀ z ∈ xs, HOk P z
  | x => HOk P x
def GOk (P : Program) : PV → Prop
  | .tup xs => ∀ z ∈ xs, AOk P z
  | x => AOk P x
theorem HOk.spec {key n : Nat} {φ2 : Phi} {D2 D3 : Nat → Prop} (hφ : ∀ i, n ≤ i → φ2 i = none) {x : PV} {v : Value} (h : HOk P x) (hv : RV P φ2 D2 w x v) (hx : (∀ b, D2 b → D3 b) ∨ ownC x = true) : RV P (phi3 key n φ φ2) D3 w (shC key x) v := by
  refine shC_spec hφ hv ?_ h
  rcases h with ⟨i, o, n, rfl⟩ | ⟨i, o, rfl⟩ | h
  · exact .inr rfl
  · exact .inr rfl
  · exact hx.imp (fun hs => ⟨h, hs⟩) id
theorem AOk.spec {key n : Nat} {φ2 : Phi} {D2 D3 : Nat → Prop} (hφ : ∀ i, n ≤ i → φ2 i = none) {x : PV} {v : Value} (h : AOk P x) (hv : RV P φ2 D2 w x v) (hx : (∀ b, D2 b → D3 b) ∨ ownA x = true) : RV P (phi3 key n φ φ2) D3 w (shA key x) v := by
  refine shA_spec hφ hv hx (fun xs e z hz D u hu hd => ?_) (fun hne D u hu hd => ?_)
  · subst e; exact HOk.spec hφ (h z hz) hu hd
  · refine HOk.spec hφ ?_ hu hd
    cases x <;> first | exact h | exact absurd rfl (hne _)
theorem GOk.spec {key n : Nat} {φ2 : Phi} {D2 D3 : Nat → Prop} (hφ : ∀ i, n ≤ i → φ2 i = none) {x : PV} {v : Value} (h : GOk P x) (hv : RV P φ2 D2 w x v) (hx : (∀ b, D2 b → D3 b) ∨ ownV x = true) : RV P (phi3 key n φ φ2) D3 w (sh key x) v := by
  unfold sh
  split
  · rename_i xs
    cases hv with
    | tup hl h2 =>
      refine .tup (by simp [hl]) (fun j y hj => ?_)
      simp at hj
      obtain ⟨z, hz, rfl⟩ := hj
      exact AOk.spec hφ (h z (List.mem_of_getElem? hz)) (h2 j z hz) (hx.imp id fun h1 => List.all_eq_true.1 h1 z (List.mem_of_getElem? hz))
  · rename_i hne
    refine AOk.spec hφ ?_ hv ?_
    · cases x <;> first | exact h | exact absurd rfl (hne _)
    · refine hx.imp id fun h1 => ?_
      cases x <;> first | exact h1 | exact absurd rfl (hne _)

theorem rowsAt_in : ∀ (l : List (TypeId × List PV)) (k : Nat) (m : Mem) (j : Nat) (e : TypeId × List PV), l[j]? = some e → rowsAt k l m (k + j) = .row e.1 e.2
  | [], _, _, _, _, h => by simp at h
  | (t, xs) :: l, k, m, 0, e, h => by simp at h; subst h; simp [rowsAt, upd]
  | (t, xs) :: l, k, m, j + 1, e, h => by
    simp only [rowsAt]
    rw [upd_ne _ _ (by omega)]
    have := rowsAt_in l (k + 1) m j e (by simpa using h)
    rw [show k + (j + 1) = k + 1 + j by omega]
    exact this
theorem rowsAt_out : ∀ (l : List (TypeId × List PV)) (k : Nat) (m : Mem) (j : Nat), (j < k ∨ k + l.length ≤ j) → rowsAt k l m j = m j
  | [], _, _, _, _ => rfl
  | (t, xs) :: l, k, m, j, h => by
    simp only [List.length_cons] at h
    simp only [rowsAt]
    rw [upd_ne _ _ (by omega)]
    exact rowsAt_out l (k + 1) m j (by omega)

def impRows (key : Nat) (rows : List (TypeId × List PV)) : List (TypeId × List PV) := rows.map fun e => (e.1, e.2.map (shC key))
theorem CallM.byval {f : FuncId} {args cargs : List PV} {r : PV} {rows : List (TypeId × List PV)} (key : Nat) (hok : Ok P f cargs r rows) (hfree : ∀ k, k < rows.length → mem (key + k) = .free)
    (hg : GOk P r) (hgr : ∀ e ∈ rows, ∀ z ∈ e.2, HOk P z) (hcase : (cargs = args ∧ ∀ x ∈ args, Cln P x) ∨ (All2 (vw P (fun _ => none) mem) args cargs ∧ ownV r = true ∧ (rows.all fun e => e.2.all ownC) = true)) :
    CallM P f args mem fun y m => y = sh key r ∧ m = rowsAt key (impRows key rows) mem := by
  intro w0 S0 φ D w vs hm ha
  -- what the call may read and nobody writes meanwhile
  obtain ⟨Dc, D3', hDc, hsub, hargs, hD3⟩ : ∃ (Dc : Nat → Prop) (D3' : (Nat → Prop) → Nat → Prop), (∀ b, Dc b → b < w.heap.size) ∧ (∀ b, D b → Dc b) ∧ RVs P noPhi Dc w cargs vs ∧
      ∀ D2 : Nat → Prop, (∀ b, Dc b → D2 b) → (∀ b, D2 b → Dc b ∨ w.heap.size ≤ b) → (∀ b, D b → D3' D2 b) ∧ (∀ b, D3' D2 b → D b ∨ (w.heap.size ≤ b ∧ D2 b)) ∧ ((∀ b, D2 b → D3' D2 b) ∨ (ownV r = true ∧ (rows.all fun e => e.2.all ownC) = true)) := by
    rcases hcase with ⟨rfl, hc⟩ | ⟨hcl, hc⟩
    · exact ⟨D, id, hm.dlt, fun _ h => h, ⟨ha.1, fun j x hj => hc x (List.mem_of_getElem? hj) _ _ _ _ _ (ha.2 j x hj)⟩, fun D2 h1 h2 => ⟨h1, fun b hb => (h2 b hb).imp id fun h => ⟨h, hb⟩, .inl fun _ h => h⟩⟩
    · refine ⟨fun b => D b ∨ ∃ i t xs, mem i = .row t xs ∧ φ i = some b, fun _ => D, ?_, fun _ h => .inl h, ?_, fun D2 h1 h2 => ⟨fun _ h => h, fun b hb => .inl hb, .inr hc⟩⟩
      · rintro b (h | ⟨i, t, xs, hi, hb⟩)
        · exact hm.dlt b h
        · exact hm.phi_lt hi hb
      · exact vws_spec (κ := fun _ => none) ⟨fun i j b h => (by cases h), fun b h => .inl h, fun i t xs b _ hi hb => .inr ⟨i, t, xs, hi, hb⟩⟩ hm hcl ha
  refine (hok Dc w vs hDc (hm.gl.tr hsub fun _ _ => rfl) hargs).mono fun e w' he => ?_
  obtain ⟨v, φ2, D2, rfl, ht, hm2, hv⟩ := he
  have hnp : ∀ b, D2 b → Dc b ∨ w.heap.size ≤ b := fun b hb => by
    rcases ht.dnew b hb with h | h | ⟨i, h⟩
    · exact .inl h
    · exact .inr h
    · cases h
  obtain ⟨h1, h2, h3⟩ := hD3 D2 ht.dd hnp
  generalize hD3e : D3' D2 = D3 at h1 h2 h3
  have hkeep : ∀ b : Nat, b < w.heap.size → w'.heap[b]? = w.heap[b]? := fun b hb => hm2.keep b hb (fun h => h)
  have hφ2 : ∀ i, rows.length ≤ i → φ2 i = none := fun i hi => hm2.free i (rowsAt_out rows 0 noMem i (by omega))
  have hφ2new : ∀ i b, φ2 i = some b → w.heap.size ≤ b := fun i b hb => by
    rcases Nat.lt_or_ge i rows.length with h | h
    · have hr := rowsAt_in rows 0 noMem i _ (List.getElem?_eq_getElem h)
      rw [Nat.zero_add] at hr
      obtain ⟨cs, hra⟩ := hm2.rowAt hr hb
      rcases hra.new with h | h
      · exact h
      · exact h.elim
    · rw [hφ2 i h] at hb; cases hb
  have hold : ∀ i b, φ i = some b → phi3 key rows.length φ φ2 i = some b := fun i b hb => by
    unfold phi3
    split
    · rename_i hi
      have := hm.free i (by have := hfree (i - key) (by omega); rwa [show key + (i - key) = i by omega] at this)
      rw [this] at hb; cases hb
    · exact hb
  have htr : Tr φ D w (phi3 key rows.length φ φ2) D3 w' := by
    refine ⟨fun i b _ hb => hold i b hb, h1, fun b hb => hkeep b (hm.dlt b hb), fun b cs t hb => ⟨cs, by rw [hkeep b (lt_of_heap hb)]; exact hb, rfl⟩, hm2.size, fun b hb => ?_, fun i b hb => ?_⟩
    · rcases h2 b hb with h | h
      · exact .inl h
      · exact .inr (.inl h.1)
    · unfold phi3 at hb
      split at hb
      · exact .inl (hφ2new _ _ hb)
      · exact .inr ⟨i, hb⟩
  have hil : (impRows key rows).length = rows.length := by simp [impRows]
  refine ⟨v, sh key r, rowsAt key (impRows key rows) mem, phi3 key rows.length φ φ2, D3, rfl, ⟨rfl, rfl⟩, htr, ?_, GOk.spec hφ2 hg hv (h3.imp id fun h => h.1)⟩
  have iget : ∀ k, k < rows.length → ∀ e, rows[k]? = some e → rowsAt key (impRows key rows) mem (key + k) = .row e.1 (e.2.map (shC key)) := fun k hk e he =>
    rowsAt_in (impRows key rows) key mem k (e.1, e.2.map (shC key)) (by simp [impRows, he])
  have cases' : ∀ j t xs, rowsAt key (impRows key rows) mem j = .row t xs → (∃ k e, j = key + k ∧ rows[k]? = some e ∧ e.1 = t ∧ e.2.map (shC key) = xs) ∨ ((j < key ∨ key + rows.length ≤ j) ∧ mem j = .row t xs) := fun j t xs hj => by
    by_cases hin : j < key ∨ key + rows.length ≤ j
    · rw [rowsAt_out _ key mem j (by rw [hil]; exact hin)] at hj; exact .inr ⟨hin, hj⟩
    · have hlt : j - key < rows.length := by omega
      have hr := iget (j - key) hlt _ (List.getElem?_eq_getElem hlt)
      rw [show key + (j - key) = j by omega, hj] at hr
      cases hr
      exact .inl ⟨j - key, _, by omega, List.getElem?_eq_getElem hlt, rfl, rfl⟩
  have pin : ∀ k, k < rows.length → phi3 key rows.length φ φ2 (key + k) = φ2 k := fun k hk => by
    unfold phi3
    rw [if_pos (by omega), Nat.add_sub_cancel_left]
  have pout : ∀ j, (j < key ∨ key + rows.length ≤ j) → phi3 key rows.length φ φ2 j = φ j := fun j hj => by
    unfold phi3
    rw [if_neg (by omega)]
  refine ⟨hm2.os.trans hm.os, hm2.tape.trans hm.tape, hm2.output.trans hm.output, Nat.le_trans hm.size hm2.size, fun b hb hs => (hkeep b (Nat.lt_of_lt_of_le hb hm.size)).trans (hm.keep b hb hs), ?_, ?_, ?_, ?_, hm.gl.tr htr.dd htr.same⟩
  · intro j t xs hj
    rcases cases' j t xs hj with ⟨k, e, rfl, hk, rfl, rfl⟩ | ⟨hout, hj⟩
    · have hlt := (List.getElem?_eq_some_iff.1 hk).1
      have hr := rowsAt_in rows 0 noMem k e hk
      rw [Nat.zero_add] at hr
      rcases hm2.row k _ _ hr with ⟨h0, hn⟩ | ⟨bl, cs, hra⟩
      · exact .inl ⟨by rw [h0]; rfl, by rw [pin k hlt]; exact hn⟩
      · refine .inr ⟨bl, cs, by rw [pin k hlt]; exact hra.phi, hra.heap, by rw [List.length_map]; exact hra.len, fun q z hq => ?_, ?_, .inl ?_⟩
        · simp at hq
          obtain ⟨y, hy, rfl⟩ := hq
          have hmem : e ∈ rows := List.mem_of_getElem? hk
          exact HOk.spec hφ2 (hgr e hmem y (List.mem_of_getElem? hy)) (hra.cells q y hy) (h3.imp id fun h => List.all_eq_true.1 (List.all_eq_true.1 h.2 e hmem) y (List.mem_of_getElem? hy))
        · intro hd
          rcases h2 bl hd with h | h
          · have := hm.dlt bl h
            have := hφ2new k bl hra.phi
            omega
          · exact hra.own h.2
        · exact Nat.le_trans hm.size (hφ2new k bl hra.phi)
    · rcases hm.row j t xs hj with ⟨h0, hn⟩ | ⟨bl, cs, hra⟩
      · exact .inl ⟨h0, by rw [pout j hout]; exact hn⟩
      · have hbl := lt_of_heap hra.heap
        refine .inr ⟨bl, cs, by rw [pout j hout]; exact hra.phi, by rw [hkeep bl hbl]; exact hra.heap, hra.len, fun q z hq => (hra.cells q z hq).mono htr, ?_, hra.new⟩
        intro hd
        rcases h2 bl hd with h | h
        · exact hra.own h
        · omega
  · intro i j t1 xs1 t2 xs2 b hi hj hbi hbj
    rcases cases' i t1 xs1 hi with ⟨k, e, rfl, hk, rfl, rfl⟩ | ⟨hout, hi⟩
    · have hlt := (List.getElem?_eq_some_iff.1 hk).1
      rw [pin k hlt] at hbi
      rcases cases' j t2 xs2 hj with ⟨k', e', rfl, hk', rfl, rfl⟩ | ⟨hout', hj⟩
      · have hlt' := (List.getElem?_eq_some_iff.1 hk').1
        rw [pin k' hlt'] at hbj
        have r1 := rowsAt_in rows 0 noMem k e hk
        have r2 := rowsAt_in rows 0 noMem k' e' hk'
        rw [Nat.zero_add] at r1 r2
        rw [hm2.inj k k' _ _ _ _ b r1 r2 hbi hbj]
      · rw [pout j hout'] at hbj
        have := hm.phi_lt hj hbj
        have := hφ2new k b hbi
        omega
    · rw [pout i hout] at hbi
      rcases cases' j t2 xs2 hj with ⟨k', e', rfl, hk', rfl, rfl⟩ | ⟨hout', hj⟩
      · have hlt' := (List.getElem?_eq_some_iff.1 hk').1
        rw [pin k' hlt'] at hbj
        have := hm.phi_lt hi hbi
        have := hφ2new k' b hbj
        omega
      · rw [pout j hout'] at hbj
        exact hm.inj i j _ _ _ _ b hi hj hbi hbj
  · intro b hb
    rcases h2 b hb with h | h
    · exact Nat.lt_of_lt_of_le (hm.dlt b h) hm2.size
    · exact hm2.dlt b h.2
  · intro j hj
    by_cases hin : j < key ∨ key + rows.length ≤ j
    · rw [rowsAt_out _ key mem j (by rw [hil]; exact hin)] at hj
      rw [pout j hin]
      exact hm.free j hj
    · have hlt : j - key < rows.length := by omega
      have hr := iget (j - key) hlt _ (List.getElem?_eq_getElem hlt)
      rw [show key + (j - key) = j by omega, hj] at hr
      cases hr

end Go.Pv

/- The engine of this session, part 14: what is to be shown of a function's code. -/
set_option linter.unusedVariables false
set_option linter.unusedSimpArgs false
namespace Go.Pv
variable {P : Program} {R : Nat → Prop} {mem : Mem} {st : St}

def vc (P : Program) (R : Nat → Prop) (base : Nat) : Code → St → (St → Exit → Prop) → Prop
  | .skip, st, Q => Q st .normal
  | .region id ops draw, st, Q => if draw = false then aops P (16384 * (id + base)) ops 0 ops.toList st (fun s => Q s .normal) else W P R (.region id ops draw) st Q
  | .seq x y, st, Q => vc P R base x st fun s e => match e with | .normal => vc P R base y s Q | e => Q s e
  | .cond c x y, st, Q => (match st.eval c with | .b (.bool t) => (t = true → vc P R base x st Q) ∧ (t = false → vc P R base y st Q) | _ => False)
  | .block id c, st, Q => vc P R base c st fun s e => match e with | .exit i => if i = id then Q s .normal else Q s (.exit i) | e => Q s e
  | .exit id, st, Q => Q st (.exit id)
  | .ret, st, Q => Q st .ret
  | .label _, st, Q => Q st .normal
  | c, st, Q => W P R c st Q
theorem vc_sound {base : Nat} : ∀ (c : Code) (st : St) (Q : St → Exit → Prop), vc P R base c st Q → W P R c st Q
  | .skip, st, Q, h => W_skip h
  | .region id ops draw, st, Q, h => by
    unfold vc at h
    split at h
    · rename_i e; subst e; exact W_region h
    · exact h
  | .seq x y, st, Q, h => W_seq (W_mono (vc_sound x st _ h) fun s e hs => by
      cases e <;> first | exact vc_sound y s Q hs | exact hs)
  | .cond c x y, st, Q, h => by
    unfold vc at h
    split at h
    · rename_i t ht; exact W_cond ht (fun e => vc_sound x st Q (h.1 e)) (fun e => vc_sound y st Q (h.2 e))
    · exact h.elim
  | .block id c, st, Q, h => W_block (vc_sound c st _ h)
  | .exit id, st, Q, h => W_exit h
  | .ret, st, Q, h => W_ret h
  | .label _, st, Q, h => W_label h
  | .loop c, st, Q, h => h
  | .rangeFunc .., st, Q, h => h
  | .scope c, st, Q, h => h
  | .goto l, st, Q, h => h
  | .refuse s, st, Q, h => h

/-- The road to a function's contract. -/
theorem Ok.of_vc {f : FuncId} {fn : Func} {c : Code} {args : List PV} {r : PV} {rows : List (TypeId × List PV)} (hf : P.funcs[f]? = some fn) (hb : fn.body = some c)
    (h : vc P (fun _ => False) 1024 c (startSt fn args noMem) (Ends P fn (Out P r rows))) : Ok P f args r rows := Ok.of_W hf hb (vc_sound c _ _ h)

theorem call_flat {f : FuncId} {args cargs : List PV} {v : Value} {K : PV → Mem → Prop} (hok : Ok P f cargs (.b v) []) (hcl : All2 (vw P (fun _ => none) mem) args cargs) (hK : K (.b v) mem) : ∃ x m', CallM P f args mem (fun y n => y = x ∧ n = m') ∧ K x m' :=
  ⟨.b v, mem, CallM.byval 0 hok (by simp) (.inr (.inr (Cln.b _))) (by simp) (.inr ⟨hcl, rfl, rfl⟩), hK⟩
theorem Out.flat' {v u : Value} {m : Mem} (h : u = v) : Out P (.b v) [] (.b u) m := by subst h; exact Out.flat
theorem HOk.b (v : Value) : HOk P (.b v) := .inr (.inr (Cln.b v))
theorem HOk.ref (i o n : Nat) : HOk P (.ref i o n) := .inl ⟨i, o, n, rfl⟩
theorem HOk.ptr (i o : Nat) : HOk P (.ptr i o) := .inr (.inl ⟨i, o, rfl⟩)
theorem HOk.val {n : Nat} {xs : List PV} (h : ∀ x ∈ xs, Cln P x) : HOk P (.val n xs) := .inr (.inr (Cln.val h))

end Go.Pv
