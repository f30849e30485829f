import PyProof.Rows.All
import Wide.All
import OpenK.AllK
import Wide.FinOn
import KE.KStateDown
import Lean
import HandS.ForMost
import HandS.ForExc
import HandS.TryMany
import HandS.ExcIs
import HandS.IsInst
import HandS.Defaults
import HandS.ClsMeth
import HandS.EndBits
import HandS.Wide
import HandS.NoneIn
import HandS.Style
import HandS.Head0
import HandS.Head1
import HandS.Head2
import HandS.HeadEnd
import HandS.HeadHook1
import HandS.HeadHook2
import HandS.HeadHook3
import HandS.HeadHook4
import HandS.Lambda
import HandS.EndTab
import KE.SortKeyHeap
import HandS.Deep
import HandS.CallSlots
import KE.SortKeyHeap
import HandS.Rev
import HandS.SortKw
import KE.KRevSl
import HandS.Dict
import HandS.Finally
import HandS.More
import HandS.DeepEq
import HandS.ExcInit
import HandS.ExcField
import KE.KExcInit
import HandS.Iter
import HandS.TupLe
import HandS.DictTup
import HandS.DictEq
import HandS.Sort
import HandS.MapSum
import KE.KExcIs
import HandS.ExcIs
import HandS.Text
import KE.IntTextLaws
import HandS.WideBits
import KE.DatumOrd
import PySem.Challenge.RW_wakefew_k23_awake_by_marks
set_option Elab.async false
set_option linter.all false
set_option maxRecDepth 100000
set_option maxHeartbeats 4000000
namespace W
open PySem PySem.Spec PyProof.Rows L2
/-- a promise's first word: so that no walk goes into it by itself -/
inductive Go : Prop where
  | go
def fdOf (K : PySem.W.Frag) (p : Str × Option Str) : FuncData := match K.lookup (He.fAd K p) with
  | some ⟨_, _, .func fd, _⟩ => fd
  | _ => default
abbrev FnT (K : PySem.W.Frag) (p : Str × Option Str) (x q : Str) (st : Stmt) (dvs : List V) : Prop := FunD K x q (defArgs st) (defBody st) (defScope st) dvs [] (He.fAd K p) (fdOf K p)
theorem fnT_mk {K : PySem.W.Frag} {p : Str × Option Str} {x q : Str} {st : Stmt} {dvs : List V} {fd : FuncData} (F : FunD K x q (defArgs st) (defBody st) (defScope st) dvs [] (He.fAd K p) fd) : FnT K p x q st dvs := by
  have e : fdOf K p = fd := by
    obtain ⟨oc, od, dV, kV, doc, pm, an, cdv, ct, osl, rfl, lk, _⟩ := F.ex
    unfold fdOf
    rw [lk]
  show FunD K x q (defArgs st) (defBody st) (defScope st) dvs [] (He.fAd K p) (fdOf K p)
  rw [e]
  exact F
/-- two readings of one expression -/
theorem PE.or {X : Cx} {e : Expr} {t u : TE} (h : PE X e t) (k : PE X e u) : PE X e (fun σ H Q => t σ H Q ∨ u σ H Q) :=
  ⟨fun pins s σ H Q I z => z.elim (h.run pins s σ H Q I) (k.run pins s σ H Q I)⟩
theorem PT.or {X : Cx} {e : Expr} {t u : TT} (h : PT X e t) (k : PT X e u) : PT X e (fun σ H Q => t σ H Q ∨ u σ H Q) :=
  ⟨fun pins s σ H Q I z => z.elim (h.run pins s σ H Q I) (k.run pins s σ H Q I)⟩
/-- a function read off its class: C.m(self, ..) -/
structure ClsFn (K : PySem.W.Frag) (C : Addr) (m : Str) (f : Addr) : Prop where
  rd : ClX.CRead K C (.type "type")
  at_ : PySem.W.findCls K (.ref C) (.type "type") m = some (.val (.ref f))
  kp : PySem.W.keepIn K (.ref f) = true
theorem pe_clsfn {X : Cx} {CX : CXT} {k : Nat} {f C : Addr} {fd : FuncData} {ps : List Str} {sp : Sp} {dvs : List V} {ds : List Value} {E : XK} {x m : Str} {p pos apos : Pos} {e : Expr} {es : List Expr} {t : TA} {pl : Sem Bool} (c : ClsFn X.K C m f)
    (F : FnOk X.prog X.w X.K X.mg X.base CX k f fd ps sp) (hr : Room k X.A) (hg : Gl X x) (hm : X.mg x = some (.ref C)) (hb : Binds X.K fd ps ds) (hd : Vals dvs ds) (hx : Passes CX X E)
    (ha : PA X (e :: es) t) (hdb : (x == ("__debug__" : Str)) = false := by decide) (hst : starEach (e :: es) X.env = (false, eval e X.env) :: starEach es X.env := by rfl) (hpl : (backTo pos (starEach es X.env)).any (·.1) = false := by rfl)
    (ht : eval (.Call (.Attribute (.Name x p) m apos) (e :: es) [] pos) X.env = (do
      let ov ← eval (.Name x p) X.env
      standAt apos.atName
      let (f, first) ← holding [ov] (getMethod ov m pl)
      callWith pos f first (backTo pos (starEach (e :: es) X.env)) (backToKw pos (keywordEach [] X.env))) := by rfl) :
    PE X (.Call (.Attribute (.Name x p) m apos) (e :: es) [] pos) (tCall sp dvs E t) := by
  refine ⟨fun pins s σ H Q I h => ?_⟩
  refine PySem.W.methodCall_KW (pl := pl) (ld_glob I hg hm ?_ hdb) ht
  refine PySem.W.method_cls I.kIn c.rd.ga ?_
  refine PySem.W.cls_value I.kIn c.rd.rd c.at_ rfl ?_
  have I1 := I.tok (s.toks + 1)
  refine PySem.W.callWith_K (h₀ := X.base) (first := []) I.ok.mod.kin c.kp (thn (ha.run pos pins _ σ H _ I1 h) fun us s1 ⟨vs, H1, I2, r, q⟩ => ⟨I2.kIn, ?_⟩) hst hpl
  exact run_fn F hr hb hd hx I2 r q
/-! ### heaps -/
theorem upd_keep {H : Hp} {a b : Addr} {o u : HO} (h : H b = some u) (n : H a = none) : upd H a o b = some u := by
  rw [upd_ne (ne_of_none h n)]
  exact h
theorem same_new {H : Hp} {p : Addr} {o : HO} (h : H p = none) : Same H (upd H p o) := fun a u e => upd_keep e h
/-- laid, then written -/
theorem upd_keep2 {H : Hp} {a b : Addr} {o u v : HO} (h : H b = some v) (n : H a = none) : upd (upd H a o) a u b = some v := by
  rw [upd_upd]
  exact upd_keep h n
theorem same_upd2 {H : Hp} {p : Addr} {o u : HO} (h : H p = none) : Same H (upd (upd H p o) p u) := fun a v e => upd_keep2 e h
/-- what H0 did not know is written -/
theorem same_mut {H0 H : Hp} {p : Addr} {o : HO} (s : Same H0 H) (h : H0 p = none) : Same H0 (upd H p o) := fun a u e => by
  rw [upd_ne (ne_of_none e h)]
  exact s a u e
theorem Same.seqT {K : PySem.W.Frag} {H H' : Hp} {a : Addr} {xs : List V} (e : Same H H') (h : SqT K H a xs) : SqT K H' a xs := by
  rcases h with (h | ⟨o, h⟩) | h
  · exact .inl (.inl (e _ _ h))
  · exact .inl (.inr ⟨o, e _ _ h⟩)
  · exact .inr h
theorem iteD {c A B : Prop} [Decidable c] (h1 : c → A) (h2 : ¬ c → B) : if decide c = true then A else B := by
  by_cases h : c
  · rw [decide_eq_true h]
    exact iteT (h1 h)
  · rw [decide_eq_false h]
    exact iteF (h2 h)
theorem iteDT {c A B : Prop} [Decidable c] (h : c) (h1 : A) : if decide c = true then A else B := by
  rw [decide_eq_true h]
  exact iteT h1
theorem iteDF {c A B : Prop} [Decidable c] (h : ¬ c) (h1 : B) : if decide c = true then A else B := by
  rw [decide_eq_false h]
  exact iteF h1
theorem iteN {c A B : Prop} [Decidable c] (h1 : c → B) (h2 : ¬ c → A) : if (!decide c) = true then A else B := by
  by_cases h : c
  · rw [decide_eq_true h]
    exact iteF (h1 h)
  · rw [decide_eq_false h]
    exact iteT (h2 h)
theorem iteB {b : Bool} {A B : Prop} (h1 : b = true → A) (h2 : b = false → B) : if b = true then A else B := by
  cases b with
  | true => exact iteT (h1 rfl)
  | false => exact iteF (h2 rfl)
theorem iteE {b c : Bool} {A B : Prop} (e : b = c) (h : if c = true then A else B) : if b = true then A else B := by
  rw [e]
  exact h
theorem V.int_inj {i j : Int} : (V.int i = V.int j) ↔ i = j := ⟨fun h => by injection h, fun h => by rw [h]⟩
theorem V.str_inj {i j : Str} : (V.str i = V.str j) ↔ i = j := ⟨fun h => by injection h, fun h => by rw [h]⟩
theorem V.bl_inj {i j : Bool} : (V.bl i = V.bl j) ↔ i = j := ⟨fun h => by injection h, fun h => by rw [h]⟩
/-! ### facts read off the written part -/
def clsFnB (x m : Str) (K : PySem.W.Frag) : Bool := PySem.W.readsIn K (He.ga K x) (.type "type") && (decide (PySem.W.specialIn K (.ref (He.ga K x)) "__getattribute__" = some (some (.builtin "type.__getattribute__"))) &&
  ((match PySem.W.findCls K (.ref (He.ga K x)) (.type "type") m with
    | some (.val (.ref a)) => decide (a = He.fAd K (x, some m))
    | _ => false) && PySem.W.keepIn K (.ref (He.fAd K (x, some m)))))
theorem clsFn_ok {K : PySem.W.Frag} {x m : Str} (h : clsFnB x m K = true) : ClsFn K (He.ga K x) m (He.fAd K (x, some m)) := by
  obtain ⟨h1, h⟩ := He.ba h
  obtain ⟨h2, h⟩ := He.ba h
  obtain ⟨h3, h4⟩ := He.ba h
  refine ⟨⟨h1, of_decide_eq_true h2⟩, ?_, h4⟩
  split at h3
  · rename_i a e
    rw [e, of_decide_eq_true h3]
  · cases h3
structure InsT (K : PySem.W.Frag) (C : Addr) : Prop where
  ha : PySem.W.findIn K (.ref C) "__class__" = some (some (.builtin "object.__class__"))
  hn : PySem.W.specialIn K (.builtin "object.__class__") "__get__" = some (some (.builtin "getset_descriptor.__get__"))
  htk : PySem.W.takesIn K (.builtin "object.__class__") = some true
  hm : PySem.W.mroIn K C (.type "object") = some true
def insTB (x : Str) (K : PySem.W.Frag) : Bool := decide (PySem.W.findIn K (.ref (He.ga K x)) "__class__" = some (some (.builtin "object.__class__"))) && (decide (PySem.W.specialIn K (.builtin "object.__class__") "__get__" = some (some (.builtin "getset_descriptor.__get__"))) &&
  (decide (PySem.W.takesIn K (.builtin "object.__class__") = some true) && decide (PySem.W.mroIn K (He.ga K x) (.type "object") = some true)))
theorem insT_ok {K : PySem.W.Frag} {x : Str} (h : insTB x K = true) : InsT K (He.ga K x) := by
  obtain ⟨h1, h⟩ := He.ba h
  obtain ⟨h2, h⟩ := He.ba h
  obtain ⟨h3, h4⟩ := He.ba h
  exact ⟨of_decide_eq_true h1, of_decide_eq_true h2, of_decide_eq_true h3, of_decide_eq_true h4⟩
theorem InsT.ty {K : PySem.W.Frag} {C a dx : Addr} {H : Hp} {fs : List (Str × V)} (i : InsT K C) (c : Cls K C) (e : H a = some (.ins C dx fs)) : TyX K H (.ref a) (.ref C) := .base (.ins e c i.ha i.hn i.htk i.hm)
def kitB2 (x y : Str) (b : Bool) (K : PySem.W.Frag) : Bool := decide (PySem.W.kitOne K (.ref (He.ga K x)) (.ref (He.ga K y)) = some b)
theorem kitB2_ok {K : PySem.W.Frag} {x y : Str} {b : Bool} (h : kitB2 x y b K = true) : PySem.W.kitOne K (.ref (He.ga K x)) (.ref (He.ga K y)) = some b := of_decide_eq_true h
def kitB3 (x : Str) (y : String) (b : Bool) (K : PySem.W.Frag) : Bool := decide (PySem.W.kitOne K (.ref (He.ga K x)) (.type y) = some b)
theorem kitB3_ok {K : PySem.W.Frag} {x : Str} {y : String} {b : Bool} (h : kitB3 x y b K = true) : PySem.W.kitOne K (.ref (He.ga K x)) (.type y) = some b := of_decide_eq_true h
/-! ### the head's facts: read off what the module's names and the model's own table reach -/
def asW (g : Addr → Option Obj) : Nat → List Addr
  | 0 => [mainGlobals, PySem.cStatics]
  | n + 1 => He.growD g (asW g n)
structure SaysW (fa : List He.Fa) (fn : List He.DefD) (ex : PySem.W.Frag → Bool) (K : PySem.W.Frag) : Prop where
  d : He.SaysD fa fn K
  more : ex K = true
def obsW (n : Nat) (fa : List He.Fa) (fn : List He.DefD) (ex : PySem.W.Frag → Bool) (g : Addr → Option Obj) : He.AlD × Bool := (He.obsD fa fn (He.frT g (asW g n)), ex (He.frT g (asW g n)))
def hookW (n : Nat) (fa : List He.Fa) (fn : List He.DefD) (ex : PySem.W.Frag → Bool) : PySem.W.Hook where
  α := He.AlD × Bool
  obs := fun s => obsW n fa fn ex s.heap.get?
  val := fun _ => (He.valD fn, true)
  says := fun _ h => ∃ K : PySem.W.Frag, K.In h ∧ SaysW fa fn ex K
  of := fun _ _ e => ⟨_, He.frT_in, ⟨congrArg Prod.fst e, congrArg Prod.snd e⟩⟩
  keeps := fun _ _ _ ⟨K, hK, c⟩ k => ⟨K, PySem.W.Frag.In.keeps hK k, c⟩
theorem obsW_eq {n : Nat} {fa : List He.Fa} {fn : List He.DefD} {ex : PySem.W.Frag → Bool} {g : Addr → Option Obj} {s : Shared} (h : ∀ a, g a = s.heap.get? a) : obsW n fa fn ex g = (hookW n fa fn ex).obs s := by
  have e : g = s.heap.get? := funext h
  rw [e] <;> rfl
/-- the end, with the script's bits told, and that nothing but the script is tracked -/
theorem walk_ofEB {l : PySem.W.OpenLaw} {n k : Nat} {q : Program} {loose : List Str} {XP : (Str → Option Value) → Heap → Prop} {YP : World → Heap → Prop} {d : DefRec} {CX : CXT} {x : Str}
    (hn : l.most = some n) (hn2 : n ≤ sizeLine) (hdf : d.params.defaults = []) (hr : Room k callerA)
    (F : ∀ (w : World) (mg : Str → Option Value) (fa : Addr) (h : Heap), YP w h → h.Ns mainGlobals mg → mg d.name = some (.ref fa) →
      ∃ (K : PySem.W.Frag) (fd : FuncData) (sp : Sp), K.In h ∧ (∀ (s : Shared) (u : Value), BindsTo s fd ⟨[u], []⟩ [(x, u)]) ∧
        (∀ (H : Hp) (a : Addr) (ns : List Int), ns.length ≤ n → (∀ z ∈ ns, Builtin.Int.intBits z ≤ 1048576) → Only H → SqL K H a (ns.map V.int) → sp [.ref a] H (fun v _ => v = .bl true) fun _ _ _ => False) ∧
        ∀ base : Heap, K.In base → base.Ns mainGlobals mg → FnOk l.prog w K mg base CX k fa fd [x] sp)
    (hCX : ∀ (H : Hp) (s : Shared) (e : Value) (s' : Shared), CX [] H s (fun _ _ _ => False) e s' → False) :
    PySem.W.WalkO q loose XP YP l.row.toRowW d [] (fun f vs => PySem.call f vs) := by
  refine Att.attach_callB hn hdf fun w s₀ s₁ mg mb fa o pm cd doc a vs ns G Y ho hd hcd hmg hobj hints hlen hbits hg => ?_
  obtain ⟨K, fd, sp, KX, hb, hsp, hF⟩ := F w mg fa _ Y G.T.g hmg
  exact law_call KX G.T.g G.T.b G.T.builtins G.T.nolimit hg hobj hints (Nat.le_trans hlen hn2) hr hF hb (fun H hO hS => hsp H a ns hlen hbits hO hS) fun H e s' => hCX H s₁ e s'
/-- the law's promise: a list of at most 63 ints is handed in, True comes out -/
structure sp_law (K : PySem.W.Frag) (vs : List V) (H : Hp) (Q : VK) (E : XK) : Prop where
  tt : Go
  ex : ∃ (a : Addr) (ns : List Int), vs = [.ref a] ∧ SqL K H a (ns.map V.int) ∧ ns.length ≤ 63 ∧ (∀ z ∈ ns, Builtin.Int.intBits z ≤ 1048576) ∧ Only H ∧ ∀ H', Q (.bl true) H'
/-! ### new objects: the heap behind by what is known of it -/
theorem PE.imp {X : Cx} {e : Expr} {t t' : TE} (h : PE X e t) (k : ∀ σ H Q, t' σ H Q → t σ H Q) : PE X e t' := ⟨fun pins s σ H Q I z => h.run pins s σ H Q I (k σ H Q z)⟩
theorem OpR.imp {X : Cx} {f : Value → Value → Sem Value} {r r' : R2} (h : OpR X f r) (k : ∀ x y H Q, r' x y H Q → r x y H Q) : OpR X f r' := fun pins s σ H x y v u Q I a b z => h pins s σ H x y v u Q I a b (k x y H Q z)
theorem CallR.imp {X : Cx} {f : Value} {r r' : List V → Hp → VK → Prop} (h : CallR X f r) (k : ∀ xs H Q, r' xs H Q → r xs H Q) : CallR X f r' := fun pins s σ H xs us Q I a z => h pins s σ H xs us Q I a (k xs H Q z)
/-- Q of a new object o -/
def New (H : Hp) (o : HO) (Q : VK) : Prop := ∀ (p : Addr) (H' : Hp), H p = none → Same H H' → H' p = some o → Q (.ref p) H'
theorem New.at_ {H : Hp} {o : HO} {Q : VK} (h : New H o Q) (p : Addr) (hp : H p = none) : Q (.ref p) (upd H p o) := h p _ hp (same_new hp) upd_same
def tTupN (t : TA) : TE := fun σ H Q => t σ H fun xs H1 => xs.length ≤ sizeLine ∧ New H1 (.tup xs) Q
def tLstN (t : TA) : TE := fun σ H Q => t σ H fun xs H1 => xs.length ≤ sizeLine ∧ New H1 (.lst xs) Q
theorem pa_mono {X : Cx} {es : List Expr} {t : TA} (h : PA X es t) : PA X es (fun σ H Q => ∃ Q', (∀ xs H1, Q' xs H1 → Q xs H1) ∧ t σ H Q') := ⟨fun pos pins s σ H Q I ⟨Q', k, z⟩ => thn (h.run pos pins s σ H Q' I z) fun us s1 ⟨vs, H1, I1, r, q⟩ => ⟨vs, H1, I1, r, k _ _ q⟩⟩
section
variable {X : Cx} {es : List Expr} {t : TA} {pos : Pos}
theorem pe_tupN {x1} (h : PA X es t) : PE X (.Tuple es x1 pos) (tTupN t) := PE.imp (pe_tup (pa_mono h)) fun σ H Q z => ⟨_, fun xs H1 w => ⟨w.1, w.2.at_⟩, z⟩
theorem pe_lstN (h : PA X es t) : PE X (.List es pos) (tLstN t) := PE.imp (pe_lst (pa_mono h)) fun σ H Q z => ⟨_, fun xs H1 w => ⟨w.1, w.2.at_⟩, z⟩
theorem pe_dnewN : PE X (.Dict [] [] pos) (fun _ H Q => New H (.dK []) Q) := PE.imp pe_dnewK fun σ H Q z => z.at_
theorem pe_dnewTN : PE X (.Dict [] [] pos) (fun _ H Q => New H (.dT []) Q) := PE.imp pe_dnewT fun σ H Q z => z.at_
def rSlN (K : PySem.W.Frag) : V → Option Int → Option Int → Hp → VK → Prop := fun x lo hi H Q => ∃ a xs, x = .ref a ∧ SqL K H a xs ∧ New H (.lst (cutV xs lo hi)) Q
theorem SlR.imp {r r' : V → Option Int → Option Int → Hp → VK → Prop} (h : SlR X r) (k : ∀ x lo hi H Q, r' x lo hi H Q → r x lo hi H Q) : SlR X r' := by
  intro pins s σ H x v vl vu lo hi sl Q I rx hs pl pu z
  exact h pins s σ H x v vl vu lo hi sl Q I rx hs pl pu (k _ _ _ _ _ z)
theorem sl_listN : SlR X (rSlN X.K) := SlR.imp sl_list fun x lo hi H Q ⟨a, xs, e, h, z⟩ => ⟨a, xs, e, h, z.at_⟩
def rListN (K : PySem.W.Frag) : List V → Hp → VK → Prop := fun xs H Q => ∃ p ys, xs = [.ref p] ∧ (SqL K H p ys ∨ SqT K H p ys) ∧ New H (.lst ys) Q
theorem call_list_ofN : CallR X (.type "list") (rListN X.K) := CallR.imp call_list_of fun xs H Q ⟨p, ys, e, h, z⟩ => ⟨p, ys, e, h, z.at_⟩
def rCatN : R2 := fun x y H Q => ∃ l b xs zs, x = .ref l ∧ y = .ref b ∧ H l = some (.lst xs) ∧ H b = some (.lst zs) ∧ xs.length + zs.length ≤ sizeLine ∧ New H (.lst (xs ++ zs)) Q
theorem op_catN : OpR X (binaryOp .Add) rCatN := OpR.imp op_cat fun x y H Q ⟨l, b, xs, zs, e1, e2, h1, h2, h3, z⟩ => ⟨l, b, xs, zs, e1, e2, h1, h2, h3, z.at_⟩
end
/-! ### what is written: all else is kept -/
def Keep (p : Addr) (H H' : Hp) : Prop := ∀ b o, b ≠ p → H b = some o → H' b = some o
theorem Keep.refl (p : Addr) (H : Hp) : Keep p H H := fun _ _ _ h => h
theorem Keep.trans {p : Addr} {H H1 H2 : Hp} (a : Keep p H H1) (b : Keep p H1 H2) : Keep p H H2 := fun c o n h => b c o n (a c o n h)
theorem Keep.upd {p : Addr} {H : Hp} {o : HO} : Keep p H (L2.upd H p o) := fun b u n h => by
  rw [upd_ne n]
  exact h
theorem Same.keep {p : Addr} {H H' : Hp} (s : Same H H') : Keep p H H' := fun b o _ h => s b o h
theorem Keep.same {p : Addr} {H0 H H' : Hp} (k : Keep p H H') (s : Same H0 H) (n : H0 p = none) : Same H0 H' := fun b o h => k b o (ne_of_none h n) (s b o h)
theorem PS.imp {X : Cx} {st : Stmt} {t t' : TS} (h : PS X st t) (k : ∀ D σ H, t' D σ H → t D σ H) : PS X st t' := ⟨fun pins s σ H D I z => h.run pins s σ H D I (k D σ H z)⟩
theorem pe_mono {X : Cx} {e : Expr} {t : TE} (h : PE X e t) : PE X e (fun σ H Q => ∃ Q', (∀ v H1, Q' v H1 → Q v H1) ∧ t σ H Q') := ⟨fun pins s σ H Q I ⟨Q', k, z⟩ => thn (h.run pins s σ H Q' I z) fun u s1 ⟨v, H1, I1, r, q⟩ => ⟨v, H1, I1, r, k _ _ q⟩⟩
/-- o.f = e -/
def sFldN (K : PySem.W.Frag) (ta tv : TE) (f : Str) : TS := fun D σ H => tv σ H fun y H1 => ta σ H1 fun x H2 => ∃ a C dx fs, x = .ref a ∧ H2 a = some (.ins C dx fs) ∧ Cls K C ∧ NoAttr K C f ∧ fs.length < 1000 ∧
  ∀ H', Keep a H2 H' → H' a = some (.ins C dx (putF f y fs)) → D.nx σ H'
theorem ps_fldN {X : Cx} {o value : Expr} {f : Str} {pos pos' : Pos} {ta tv : TE} (ha : PE X o ta) (hv : PE X value tv) (hs : swapsWith value (some (.Attribute o f pos')) pos.line X.env = pure false) : PS X (.Assign [.Attribute o f pos'] value pos) (sFldN X.K ta tv f) := by
  refine PS.imp (ps_fld (pe_mono ha) (pe_mono hv) hs) fun D σ H z => ⟨_, fun y H1 w => ?_, z⟩
  refine ⟨_, fun x H2 w2 => ?_, w⟩
  obtain ⟨a, C, dx, fs, e, ea, c, n, l, k⟩ := w2
  exact ⟨a, C, dx, fs, e, ea, c, n, l, k _ Keep.upd upd_same⟩
/-- the ways behind a statement joined: J holds behind each -/
def tCut (t : TS) : TS := fun D σ H => ∃ J : L2.St → Hp → Prop, (∀ σ' H', J σ' H' → D.nx σ' H') ∧ t { D with nx := J } σ H
theorem ps_cut {X : Cx} {st : Stmt} {t : TS} (h : PS X st t) : PS X st (tCut t) := by
  refine ⟨fun pins s σ H D I ⟨J, k, z⟩ => thn (h.run pins s σ H _ I z) fun f s1 q => ?_⟩
  cases f with
  | next =>
    obtain ⟨σ', H', I', j⟩ := q
    exact ⟨σ', H', I', k σ' H' j⟩
  | brk => exact q
  | cont => exact q
  | ret u => exact q
/-- a test that may be weakened; a while by a word and a measure of the state -/
def tMonoT (t : TT) : TT := fun σ H Q => ∃ Q' : Bool → Hp → Prop, (∀ b H1, Q' b H1 → Q b H1) ∧ t σ H Q'
theorem pt_monoT {X : Cx} {e : Expr} {t : TT} (h : PT X e t) : PT X e (tMonoT t) := ⟨fun pins s σ H Q I ⟨Q', k, z⟩ => thn (h.run pins s σ H Q' I z) fun b s1 ⟨H1, I1, q⟩ => ⟨H1, I1, k _ _ q⟩⟩
theorem while_w {t : TT} {tb : TS} {D : Ends} {σ : L2.St} {H : Hp} (Pv : L2.St → Hp → Prop) (μ : L2.St → Hp → Nat) (h0 : Pv σ H)
    (hs : ∀ σ H, Pv σ H → t σ H fun b H1 => if b = true then tb { D with nx := fun σ' H' => Pv σ' H' ∧ μ σ' H' < μ σ H, ct := fun σ' H' => Pv σ' H' ∧ μ σ' H' < μ σ H, bk := D.nx } σ H1 else D.nx σ H1) : tWhile (tMonoT t) tb D σ H :=
  while_by Pv μ h0 (fun σ H p => ⟨_, fun _ _ q => q, hs σ H p⟩) fun σ H Q Q' k ⟨Q0, k0, z⟩ => ⟨Q0, fun b H1 q => k _ _ (k0 _ _ q), z⟩
theorem few {fs : List (Str × V)} (h : Nat.blt fs.length 1000 = true) : fs.length < 1000 := Nat.le_of_ble_eq_true h
/-- C(..): a new instance, then its __init__ -/
def tMakeN (C : Addr) (sp : Sp) (dvs : List V) (E : XK) (t : TA) : TE := fun σ H Q => t σ H fun vs H1 => ∀ (x dx : Addr) (H2 : Hp), H1 x = none → Same H1 H2 → H2 x = some (.ins C dx []) → sp (.ref x :: (vs ++ dvs)) H2 (fun v H3 => v = .non ∧ Q (.ref x) H3) E
section
variable {X : Cx} {CX : CXT} {k : Nat} {f C : Addr} {fd : FuncData} {ps : List Str} {sp : Sp} {dvs : List V} {ds : List Value} {E : XK} {x : Str} {p pos : Pos} {e : Expr} {es : List Expr} {t : TA}
theorem make_ex {H1 : Hp} {Q : VK} {vs : List V} (k : ∀ (x dx : Addr) (H2 : Hp), H1 x = none → Same H1 H2 → H2 x = some (.ins C dx []) → sp (.ref x :: (vs ++ dvs)) H2 (fun v H3 => v = .non ∧ Q (.ref x) H3) E) :
    ∀ x dx, H1 x = none → H1 dx = none → dx ≠ x → sp (.ref x :: (vs ++ dvs)) (L2.upd (L2.upd H1 dx (.own x)) x (.ins C dx [])) (fun v H2 => v = .non ∧ Q (.ref x) H2) E := fun x dx hx hd ne =>
  k x dx _ hx ((same_new hd).trans (same_new (by rw [upd_ne ne.symm]; exact hx))) upd_same
theorem pe_makeN (M : Mk X.K C f) (F : FnOk X.prog X.w X.K X.mg X.base CX k f fd ps sp) (hr : Room (k + 1) X.A) (hg : Gl X x) (hm : X.mg x = some (.ref C)) (hb : Binds X.K fd ps ds) (hd : Vals dvs ds) (hx : Passes CX X E)
    (ha : PA X (e :: es) t) (hdb : (x == ("__debug__" : Str)) = false := by decide) (he : starEach (e :: es) X.env = (false, eval e X.env) :: starEach es X.env := by rfl) (hpl : (backTo pos (starEach es X.env)).any (·.1) = false := by rfl) :
    PE X (.Call (.Name x p) (e :: es) [] pos) (tMakeN C sp dvs E t) :=
  PE.imp (pe_make M F hr hg hm hb hd hx (pa_mono ha) hdb he hpl) fun σ H Q z => ⟨_, fun vs H1 w => make_ex w, z⟩
theorem pe_make0N (M : Mk X.K C f) (F : FnOk X.prog X.w X.K X.mg X.base CX k f fd ps sp) (hr : Room (k + 1) X.A) (hg : Gl X x) (hm : X.mg x = some (.ref C)) (hb : Binds X.K fd ps ds) (hd : Vals dvs ds) (hx : Passes CX X E) (hdb : (x == ("__debug__" : Str)) = false := by decide) :
    PE X (.Call (.Name x p) [] [] pos) (tMakeN C sp dvs E tNil) :=
  PE.imp (pe_make0 M F hr hg hm hb hd hx hdb) fun σ H Q z => make_ex z
end
/-! ### values of the built-in kinds -/
def bTys : List String := ["int", "bool", "str", "NoneType", "list", "tuple", "dict"]
theorem bTys_mem {t : String} (h : bTys.contains t = true) : t ∈ bTys := List.contains_iff_mem.mp h
def Base (K : PySem.W.Frag) (H : Hp) (v : V) : Prop := ∃ t : String, TyX K H v (.type t) ∧ t ∈ bTys
theorem base_int {K : PySem.W.Frag} {H : Hp} {i : Int} : Base K H (.int i) := ⟨"int", .base (.int i), bTys_mem (by decide +kernel)⟩
theorem base_bl {K : PySem.W.Frag} {H : Hp} {i : Bool} : Base K H (.bl i) := ⟨"bool", .base (.bl i), bTys_mem (by decide +kernel)⟩
theorem base_str {K : PySem.W.Frag} {H : Hp} {i : Str} : Base K H (.str i) := ⟨"str", .base (.str i), bTys_mem (by decide +kernel)⟩
theorem base_non {K : PySem.W.Frag} {H : Hp} : Base K H .non := ⟨"NoneType", .base .non, bTys_mem (by decide +kernel)⟩
theorem base_lst {K : PySem.W.Frag} {H : Hp} {a : Addr} {xs : List V} (h : H a = some (.lst xs)) : Base K H (.ref a) := ⟨"list", .base (.lst h), bTys_mem (by decide +kernel)⟩
theorem base_tup {K : PySem.W.Frag} {H : Hp} {a : Addr} {xs : List V} (h : H a = some (.tup xs)) : Base K H (.ref a) := ⟨"tuple", .base (.tup h), bTys_mem (by decide +kernel)⟩
/-- an int, the other kinds not -/
def isI : V → Bool
  | .int _ => true
  | _ => false
theorem tyx_isI {K : PySem.W.Frag} {H : Hp} {v : V} {t : String} (h : TyX K H v (.type t)) : (t == "int") = isI v := by
  cases h with
  | base b => cases b <;> first | rfl | decide +kernel
  | _ => first | rfl | decide +kernel
theorem isI_iff {v : V} (h : isI v = true) : ∃ i, v = .int i := by
  cases v with
  | int i => exact ⟨i, rfl⟩
  | _ => cases h
/-- kept through a change of an instance -/
theorem TyX.keep {K : PySem.W.Frag} {H H' : Hp} {p C dx : Addr} {fs : List (Str × V)} {v : V} {t : String} (k : Keep p H H') (hp : H p = some (.ins C dx fs)) (h : TyX K H v (.type t)) : TyX K H' v (.type t) := by
  have ne : ∀ {a : Addr} {o : HO}, H a = some o → (o ≠ .ins C dx fs) → H' a = some o := fun {a o} e n => k a o (fun z => n (by rw [z, hp] at e; exact (Option.some.inj e).symm)) e
  cases h with
  | base b =>
    cases b with
    | non => exact .base .non
    | bl x => exact .base (.bl x)
    | int i => exact .base (.int i)
    | str x => exact .base (.str x)
    | flt x => exact .base (.flt x)
    | lst e => exact .base (.lst (ne e (fun z => nomatch z)))
    | frz e => exact .base (.frz (ne e (fun z => nomatch z)))
    | tup e => exact .base (.tup (ne e (fun z => nomatch z)))
    | dK e => exact .base (.dK (ne e (fun z => nomatch z)))
    | dT e => exact .base (.dT (ne e (fun z => nomatch z)))
  | byt b => exact .byt b
  | set e => exact .set (ne e (fun z => nomatch z))
  | kList e c => exact .kList e c
  | kTuple e c => exact .kTuple e c
  | kDict e c => exact .kDict e c
  | fTuple e => exact .fTuple (ne e (fun z => nomatch z))
  | fDict e => exact .fDict (ne e (fun z => nomatch z))
theorem Base.keep {K : PySem.W.Frag} {H H' : Hp} {p C dx : Addr} {fs : List (Str × V)} {v : V} (k : Keep p H H') (hp : H p = some (.ins C dx fs)) (h : Base K H v) : Base K H' v := by
  obtain ⟨t, h, m⟩ := h
  exact ⟨t, W.TyX.keep k hp h, m⟩
/-! ### more rules -/
theorem pe_powC (n : Nat) {X : Cx} {j j2 : Nat} {b : Int} {p1 p2 pos : Pos} (h0 : decide (n ≤ 1000000) = true := by rfl) (hb : decide (b.natAbs < 2 ^ 64) = true := by rfl) :
    PE X (.BinOp (.Constant (.int b) j p1) .Pow (.Constant (.int (n : Int)) j2 p2) pos) (tC (.int (b ^ n))) := by
  refine ⟨fun pins s σ H Q I h => ?_⟩
  have e := (pe_op (X := X) (pos := pos) op_pow (pe_int (i := b) (j := j) (pos := p1)) (pe_int (i := (n : Int)) (j := j2) (pos := p2))).run pins s σ H Q I
  refine e ⟨b, n, rfl, rfl, ⟨by omega, ?_, of_decide_eq_true hb⟩, ?_⟩
  · have := of_decide_eq_true h0
    omega
  · exact h
/-! ### a method by the kind of its owner -/
structure MRow (X : Cx) (m : Str) (E : XK) (C : Addr) (sp : Sp) : Prop where
  c : Cls X.K C
  ex : ∃ (f : Addr) (CX : CXT) (k : Nat) (fd : FuncData) (ps : List Str) (sp0 : Sp) (dvs : List V) (ds : List Value), Meth X.K C m f ∧ FnOk X.prog X.w X.K X.mg X.base CX k f fd ps sp0 ∧ Room k X.A ∧ Binds X.K fd ps ds ∧ Vals dvs ds ∧ Passes CX X E ∧
    ∀ vs H Q, sp vs H Q E → sp0 (vs ++ dvs) H Q E
theorem MRow.of {X : Cx} {m : Str} {E : XK} {C : Addr} {sp : Sp} {f : Addr} {CX : CXT} {k : Nat} {fd : FuncData} {ps : List Str} {sp0 : Sp} {dvs : List V} {ds : List Value} (c : Cls X.K C) (hm : Meth X.K C m f) (F : FnOk X.prog X.w X.K X.mg X.base CX k f fd ps sp0) (hr : Room k X.A)
    (hb : Binds X.K fd ps ds) (hd : Vals dvs ds) (hx : Passes CX X E) (h : ∀ {vs H Q}, sp vs H Q E → sp0 (vs ++ dvs) H Q E) : MRow X m E C sp := ⟨c, f, CX, k, fd, ps, sp0, dvs, ds, hm, F, hr, hb, hd, hx, fun _ _ _ => h⟩
def tPoly {ι : Type} (At : Hp → Addr → ι → Prop) (sp : ι → Sp) (E : XK) (ta : TE) (t : TA) : TE := fun σ H Q => ta σ H fun x H1 => ∃ (i : ι) (p : Addr), x = .ref p ∧ At H1 p i ∧ t σ H1 fun vs H2 => sp i (x :: vs) H2 Q E
theorem pe_methP {X : Cx} {ι : Type} {At : Hp → Addr → ι → Prop} {C : ι → Addr} {sp : ι → Sp} {E : XK} {m : Str} {o : Expr} {ta : TE} {e : Expr} {es : List Expr} {t : TA} {pos apos : Pos} {pl : Sem Bool}
    (hAt : ∀ {H p i}, At H p i → ∃ dx fs, H p = some (.ins (C i) dx fs) ∧ fs.lookup m = none) (R : ∀ i, MRow X m E (C i) (sp i)) (he : PE X o ta) (ha : PA X (e :: es) t)
    (hst : starEach (e :: es) X.env = (false, eval e X.env) :: starEach es X.env := by rfl) (hpl : (backTo pos (starEach es X.env)).any (·.1) = false := by rfl)
    (ht : eval (.Call (.Attribute o m apos) (e :: es) [] pos) X.env = (do
      let ov ← eval o X.env
      standAt apos.atName
      let (f, first) ← holding [ov] (getMethod ov m pl)
      callWith pos f first (backTo pos (starEach (e :: es) X.env)) (backToKw pos (keywordEach [] X.env))) := by rfl) :
    PE X (.Call (.Attribute o m apos) (e :: es) [] pos) (tPoly At sp E ta t) := by
  refine ⟨fun pins s σ H Q I h => ?_⟩
  refine PySem.W.methodCall_KW (pl := pl) (thn (he.run pins s σ H _ I h) fun u s1 ⟨x, H1, I1, rx, i, a, ex, hi, q⟩ => ?_) ht
  subst ex
  obtain rfl : u = Value.ref a := rx
  obtain ⟨dx, fs, ea, l⟩ := hAt hi
  obtain ⟨c, f, CX, k, fd, ps, sp0, dvs, ds, hm, F, hr, hb, hd, hx, hs⟩ := R i
  refine getmeth_ok I1 ea c hm l ?_
  refine PySem.W.callWith_K (first := [.ref a]) (h₀ := X.base) I.ok.mod.kin hm.kp (thn (ha.run pos pins s1 σ H1 _ I1 q) fun us s2 ⟨vs, H2, I2, r, q2⟩ => ⟨I2.kIn, ?_⟩) hst hpl
  exact run_fn (us := .ref a :: us) (vs := .ref a :: vs) F hr hb hd hx I2 (.cons rfl r) (hs _ _ _ q2)
theorem pe_methP0 {X : Cx} {ι : Type} {At : Hp → Addr → ι → Prop} {C : ι → Addr} {sp : ι → Sp} {E : XK} {m : Str} {o : Expr} {ta : TE} {pos apos : Pos} {pl : Sem Bool}
    (hAt : ∀ {H p i}, At H p i → ∃ dx fs, H p = some (.ins (C i) dx fs) ∧ fs.lookup m = none) (R : ∀ i, MRow X m E (C i) (sp i)) (he : PE X o ta)
    (ht : eval (.Call (.Attribute o m apos) [] [] pos) X.env = (do
      let ov ← eval o X.env
      standAt apos.atName
      let (f, first) ← holding [ov] (getMethod ov m pl)
      callWith pos f first (backTo pos (starEach [] X.env)) (backToKw pos (keywordEach [] X.env))) := by rfl) :
    PE X (.Call (.Attribute o m apos) [] [] pos) (tPoly At sp E ta tNil) := by
  refine ⟨fun pins s σ H Q I h => ?_⟩
  refine PySem.W.methodCall_KW (pl := pl) (thn (he.run pins s σ H _ I h) fun u s1 ⟨x, H1, I1, rx, i, a, ex, hi, q⟩ => ?_) ht
  subst ex
  obtain rfl : u = Value.ref a := rx
  obtain ⟨dx, fs, ea, l⟩ := hAt hi
  obtain ⟨c, f, CX, k, fd, ps, sp0, dvs, ds, hm, F, hr, hb, hd, hx, hs⟩ := R i
  refine getmeth_ok I1 ea c hm l ?_
  exact PySem.W.callWith_K0 (first := [.ref a]) I1.kIn hm.kp (run_fn (us := [.ref a]) (vs := [.ref a]) F hr hb hd hx I1 (.cons rfl .nil) (hs _ _ _ q))
end W

set_option linter.all false
/-! M0: the plain side. Data, results, and the combinators in which the mirrors of the defs are written. No model in sight. -/
namespace M
open PySem (Str)
abbrev Ky := Sum Int Str
/-- data as the program sees it: trees -/
inductive D where
  | non | bl (b : Bool) | int (i : Int) | str (s : Str) | gl (x : Str) | ty (n : String)
  | lst (xs : List D) | scr (xs : List D) | tup (xs : List D) | dic (ks : List Ky) (xs : List D) | dit (ks : List (List Ky)) (xs : List D) | hnd (i : Nat) | adr (a : Nat) | exo (a d : Nat) (n : Str) | obj (c : Str) (ns : List Str) (xs : List D)
/-- an exception: its class, and the name that it bears -/
structure Exn where
  cls : Str
  arg : Option Str
  deriving DecidableEq
inductive Res (α : Type) where
  | ok (a : α) | ex (e : Exn) | stuck
def Res.bind {α β : Type} : Res α → (α → Res β) → Res β
  | .ok a, k => k a
  | .ex e, _ => .ex e
  | .stuck, _ => .stuck
@[simp] theorem bind_ok {α β : Type} (a : α) (k : α → Res β) : (Res.ok a).bind k = k a := rfl
@[simp] theorem bind_ex {α β : Type} (e : Exn) (k : α → Res β) : (Res.ex e).bind k = .ex e := rfl
@[simp] theorem bind_stuck {α β : Type} (k : α → Res β) : (Res.stuck).bind k = .stuck := rfl
def Res.ofO {α : Type} : Option α → Res α
  | some a => .ok a
  | none => .stuck
@[simp] theorem ofO_some {α : Type} (a : α) : Res.ofO (some a) = .ok a := rfl
@[simp] theorem ofO_none {α : Type} : Res.ofO (none : Option α) = .stuck := rfl
/-- only where the side holds -/
def Res.chk {α : Type} (c : Bool) (a : α) : Res α := if c = true then .ok a else .stuck
@[simp] theorem chk_true {α : Type} (a : α) : Res.chk true a = .ok a := rfl
@[simp] theorem chk_false {α : Type} (a : α) : Res.chk false a = .stuck := rfl
theorem chk_pos {α : Type} {c : Bool} {a : α} (h : c = true) : Res.chk c a = .ok a := if_pos h
/-- what comes of a statement -/
inductive Out (S R : Type) where
  | nx (s : S) | rt (r : R) (s : S) | bk (s : S) | ct (s : S) | ex (e : Exn) (s : S) | stuck
section
variable {S R α β γ : Type}
/-- a value, then a statement that uses it -/
def andS (f : S → Res α) (k : α → S → Out S R) : S → Out S R := fun s => match f s with
  | .ok a => k a s
  | .ex e => .ex e s
  | .stuck => .stuck
def skipS : S → Out S R := .nx
def asgS (f : S → Res α) (put : S → α → S) : S → Out S R := andS f fun a s => .nx (put s a)
def dropS (f : S → Res α) : S → Out S R := andS f fun _ s => .nx s
def retS (f : S → Res R) : S → Out S R := andS f fun a s => .rt a s
def ifS (c : S → Res Bool) (a b : S → Out S R) : S → Out S R := andS c fun x s => if x = true then a s else b s
def seqS (a b : S → Out S R) : S → Out S R := fun s => match a s with
  | .nx s' => b s'
  | .rt r s' => .rt r s'
  | .bk s' => .bk s'
  | .ct s' => .ct s'
  | .ex e s' => .ex e s'
  | .stuck => .stuck
def brkS : S → Out S R := .bk
def cntS : S → Out S R := .ct
def raiseS (f : S → Res Exn) : S → Out S R := fun s => match f s with
  | .ok e => .ex e s
  | .ex e => .ex e s
  | .stuck => .stuck
/-- a plain step on the state ahead (forget, freeze) -/
def preS (g : S → S) (a : S → Out S R) : S → Out S R := fun s => a (g s)
def loopL (put : S → α → S) (body : S → Out S R) : List α → S → Out S R
  | [], s => .nx s
  | x :: xs, s => match body (put s x) with
    | .nx s' => loopL put body xs s'
    | .ct s' => loopL put body xs s'
    | .bk s' => .nx s'
    | .rt r s' => .rt r s'
    | .ex e s' => .ex e s'
    | .stuck => .stuck
def forS (f : S → Res (List α)) (put : S → α → S) (body : S → Out S R) : S → Out S R := andS f fun xs s => loopL put body xs s
/-- a loop in which nothing is refused -/
def Out.str : Out S R → Out S R
  | .ex _ _ => .stuck
  | o => o
def forK (f : S → Res (List α)) (put : S → α → S) (body : S → Out S R) : S → Out S R := andS f fun xs s => (loopL put body xs s).str
def loopW (c : S → Res Bool) (body : S → Out S R) : Nat → S → Out S R
  | 0, _ => .stuck
  | n + 1, s => match c s with
    | .stuck => .stuck
    | .ex e => .ex e s
    | .ok false => .nx s
    | .ok true => match body s with
      | .nx s' => loopW c body n s'
      | .ct s' => loopW c body n s'
      | .bk s' => .nx s'
      | .rt r s' => .rt r s'
      | .ex e s' => .ex e s'
      | .stuck => .stuck
open Classical in
noncomputable def whileS (c : S → Res Bool) (body : S → Out S R) : S → Out S R := fun s =>
  if h : ∃ n, loopW c body n s ≠ .stuck then loopW c body h.choose s else .stuck
theorem loopW_mono {c : S → Res Bool} {body : S → Out S R} : ∀ {n m : Nat} {s : S}, n ≤ m → loopW c body n s ≠ .stuck → loopW c body m s = loopW c body n s
  | 0, _, _, _, h => absurd rfl h
  | n + 1, 0, _, hl, _ => absurd hl (by omega)
  | n + 1, m + 1, s, hl, h => by
    unfold loopW at h ⊢
    cases e : c s with
    | stuck => rfl
    | ex e => rfl
    | ok b =>
      cases b with
      | false => rfl
      | true =>
        simp only [e] at h ⊢
        cases e2 : body s with
        | nx s' => simp only [e2] at h ⊢; exact loopW_mono (by omega) h
        | ct s' => simp only [e2] at h ⊢; exact loopW_mono (by omega) h
        | _ => rfl
theorem whileS_of {c : S → Res Bool} {body : S → Out S R} {n : Nat} {s : S} (h : loopW c body n s ≠ .stuck) : whileS c body s = loopW c body n s := by
  have hx : ∃ n, loopW c body n s ≠ .stuck := ⟨n, h⟩
  unfold whileS
  rw [dif_pos hx]
  rcases Nat.le_total n hx.choose with l | l
  · exact loopW_mono l h
  · exact (loopW_mono l hx.choose_spec).symm
theorem whileS_ex {c : S → Res Bool} {body : S → Out S R} {s : S} (h : whileS c body s ≠ .stuck) : ∃ n, loopW c body n s = whileS c body s := by
  by_cases hx : ∃ n, loopW c body n s ≠ .stuck
  · exact ⟨hx.choose, by unfold whileS; rw [dif_pos hx]⟩
  · exact absurd (by unfold whileS; rw [dif_neg hx]) h
/-- a def's end: its value -/
def endF (o : Out S R) : Res R := match o with
  | .rt r _ => .ok r
  | .ex e _ => .ex e
  | _ => .stuck
def endU (o : Out S Unit) : Res Unit := match o with
  | .rt r _ => .ok r
  | .nx _ => .ok ()
  | .ex e _ => .ex e
  | _ => .stuck
/-- nothing raised -/
def Res.str : Res α → Res α
  | .ok a => .ok a
  | _ => .stuck
@[simp] theorem str_ok (a : α) : (Res.ok a).str = .ok a := rfl
/-- list comprehensions -/
def lcR (xs : List α) (c : α → Res Bool) (f : α → Res β) : Res (List β) := match xs with
  | [] => .ok []
  | x :: xs => (c x).str.bind fun b => if b = true then (f x).str.bind fun y => (lcR xs c f).bind fun ys => .ok (y :: ys) else lcR xs c f
/-! expressions -/
def op1 (g : α → Res β) (f : S → Res α) : S → Res β := fun s => (f s).bind g
def op2 (g : α → β → Res γ) (f : S → Res α) (h : S → Res β) : S → Res γ := fun s => (f s).bind fun a => (h s).bind fun b => g a b
def iteE (c : S → Res Bool) (a b : S → Res α) : S → Res α := fun s => (c s).bind fun x => if x = true then a s else b s
def andE (c d : S → Res Bool) : S → Res Bool := fun s => (c s).bind fun x => if x = true then d s else .ok false
def orE (c d : S → Res Bool) : S → Res Bool := fun s => (c s).bind fun x => if x = true then .ok true else d s
def notE (c : S → Res Bool) : S → Res Bool := fun s => (c s).bind fun x => .ok (!x)
end
/-! ### encodings -/
class Enc (α : Type) where
  enc : α → D
open Enc (enc)
instance : Enc Int := ⟨.int⟩
instance : Enc Bool := ⟨.bl⟩
instance : Enc Str := ⟨.str⟩
instance : Enc Unit := ⟨fun _ => .non⟩
instance : Enc D := ⟨id⟩
instance {α : Type} [Enc α] : Enc (Option α) := ⟨fun x => match x with | none => .non | some a => enc a⟩
instance {α : Type} [Enc α] : Enc (List α) := ⟨fun xs => .lst (xs.map enc)⟩
/-- the script: a list that nobody writes -/
structure Scr where
  ns : List Int
instance : Enc Scr := ⟨fun x => .scr (x.ns.map Enc.enc)⟩
structure T2 (α β : Type) where
  a : α
  b : β
  deriving DecidableEq
structure T3 (α β γ : Type) where
  a : α
  b : β
  c : γ
  deriving DecidableEq
structure T4 (α β γ δ : Type) where
  a : α
  b : β
  c : γ
  d : δ
  deriving DecidableEq
instance {α β : Type} [Enc α] [Enc β] : Enc (T2 α β) := ⟨fun x => .tup [enc x.a, enc x.b]⟩
instance {α β γ : Type} [Enc α] [Enc β] [Enc γ] : Enc (T3 α β γ) := ⟨fun x => .tup [enc x.a, enc x.b, enc x.c]⟩
instance {α β γ δ : Type} [Enc α] [Enc β] [Enc γ] [Enc δ] : Enc (T4 α β γ δ) := ⟨fun x => .tup [enc x.a, enc x.b, enc x.c, enc x.d]⟩
/-- keys of dicts -/
class KyC (κ : Type) where
  ky : κ → Ky
instance : KyC Int := ⟨.inl⟩
instance : KyC Str := ⟨.inr⟩
/-- a dict: its pairs in order -/
structure Dct (κ α : Type) where
  kvs : List (κ × α)
  deriving DecidableEq
instance {κ α : Type} [KyC κ] [Enc α] : Enc (Dct κ α) := ⟨fun d => .dic (d.kvs.map fun kv => KyC.ky kv.1) (d.kvs.map fun kv => enc kv.2)⟩
/-! ### operations -/
def sizeLn : Nat := 2 ^ 24
def ixN (n : Nat) (i : Int) : Option Nat := if 0 ≤ i then (if i < n then some i.toNat else none) else if -(n : Int) ≤ i then some (i + n).toNat else none
def atI {α : Type} (xs : List α) (i : Int) : Option α := (ixN xs.length i).bind fun j => xs[j]?
def idxL {α : Type} (xs : List α) (i : Int) : Res α := .ofO (atI xs i)
def addI (a b : Int) : Res Int := .ok (a + b)
def subI (a b : Int) : Res Int := .ok (a - b)
/-- a product: one factor small, or both of less than a million bits together -/
def mulI (a b : Int) : Res Int := .chk (decide (a.natAbs < 2 ^ 64 ∨ b.natAbs < 2 ^ 64 ∨ a.natAbs.log2 + b.natAbs.log2 < 1000000)) (a * b)
def divI (a b : Int) : Res Int := .chk (decide (0 < b ∧ b.natAbs.log2 < 9000)) (a / b)
def modI (a b : Int) : Res Int := .chk (decide (0 < b)) (a % b)
def negI (a : Int) : Res Int := .ok (-a)
def ltI (a b : Int) : Res Bool := .ok (decide (a < b))
def leI (a b : Int) : Res Bool := .ok (decide (a ≤ b))
def gtI (a b : Int) : Res Bool := .ok (decide (b < a))
def geI (a b : Int) : Res Bool := .ok (decide (b ≤ a))
def eqA {α : Type} [DecidableEq α] (a b : α) : Res Bool := .ok (decide (a = b))
def neA {α : Type} [DecidableEq α] (a b : α) : Res Bool := .ok (!decide (a = b))
def isNo {α : Type} (a : Option α) (_ : Unit) : Res Bool := .ok a.isNone
def notNo {α : Type} (a : Option α) (_ : Unit) : Res Bool := .ok (!a.isNone)
def addT (a b : Str) : Res Str := .chk (decide (a.length + b.length ≤ sizeLn)) (a ++ b)
def one (c : Nat) : Str := ⟨#[c]⟩
def idxT (s : Str) (i : Int) : Res Str := (Res.chk (decide (s.length ≤ sizeLn)) ()).bind fun _ => (Res.ofO (atI s.cps.toList i)).bind fun c => .ok (one c)
def ltT (a b : Str) : Res Bool := .ok (decide (a.cps.toList < b.cps.toList))
/-- one sign in a text -/
def inT (a b : Str) : Res Bool := match a.cps.toList with
  | [c] => .ok (decide (c ∈ b.cps.toList))
  | _ => .stuck
def ninT (a b : Str) : Res Bool := match a.cps.toList with
  | [c] => .ok (!decide (c ∈ b.cps.toList))
  | _ => .stuck
def charsT (s : Str) : List Str := s.cps.toList.map one
def startsB (a b : Str) : Bool := decide (0 + b.length ≤ a.length) && (a.cps.extract 0 (0 + b.length) == b.cps)
def startsT (a b : Str) : Res Bool := .ok (startsB a b)
/-- int(text): a number as it is written -/
def dgt (c : Nat) : Bool := decide (48 ≤ c ∧ c ≤ 57)
def digsV (cs : List Nat) : Nat := cs.foldl (fun acc c => acc * 10 + (c - 48)) 0
def numP (s : Str) : Option Int := if s.cps.toList ≠ [] ∧ s.cps.toList.all dgt = true then some (digsV s.cps.toList : Int) else match s.cps.toList with
  | c :: cs => if c = 45 ∧ cs ≠ [] ∧ cs.all dgt = true then some (-(digsV cs : Int)) else none
  | [] => none
def intP (s : Str) : Res Int := if s.length ≤ 640 then .ofO (numP s) else .stuck
def joinT (a : Str) (ys : List Str) : Res Str := .chk (decide ((ys.map (·.length)).sum + ys.length * a.length ≤ 16777216)) (PySem.Str.join a ys)
def lenT (s : Str) : Res Int := .chk (decide (s.length ≤ sizeLn)) (s.length : Int)
def enumL {α : Type} (xs : List α) : List (T2 Int α) := xs.mapIdx fun i a => ⟨(i : Int), a⟩
def lenL {α : Type} (xs : List α) : Res Int := .ok (xs.length : Int)
def catL {α : Type} (xs ys : List α) : Res (List α) := .chk (decide (xs.length + ys.length ≤ sizeLn)) (xs ++ ys)
def sIx (n d : Nat) : Option Int → Nat
  | none => d
  | some i => if i < 0 then (i + (n : Int)).toNat else min i.toNat n
def cut {α : Type} (xs : List α) (lo hi : Option Int) : List α := (xs.drop (sIx xs.length 0 lo)).take (sIx xs.length xs.length hi - sIx xs.length 0 lo)
def cutT (s : Str) (lo hi : Option Int) : Res Str := .chk (decide (s.length ≤ sizeLn)) ⟨(cut s.cps.toList lo hi).toArray⟩
/-- a drawn place of (text, a, a) -/
def ix12 {α β : Type} (x : T3 α β β) (i : Int) : Res β := if i = 1 then .ok x.b else if i = 2 then .ok x.c else .stuck
def inL {α : Type} [DecidableEq α] (a : α) (xs : List α) : Res Bool := .ok (decide (a ∈ xs))
def ninL {α : Type} [DecidableEq α] (a : α) (xs : List α) : Res Bool := .ok (!decide (a ∈ xs))
/-- Python's order -/
class LeO (α : Type) where
  le : α → α → Bool
instance : LeO Int := ⟨fun a b => decide (a ≤ b)⟩
instance : LeO Str := ⟨fun a b => decide (a.cps.toList ≤ b.cps.toList)⟩
instance {α β : Type} [DecidableEq α] [LeO α] [LeO β] : LeO (T2 α β) := ⟨fun p q => if p.a = q.a then LeO.le p.b q.b else LeO.le p.a q.a⟩
def sortL {α : Type} [LeO α] (xs : List α) : List α := xs.mergeSort LeO.le
def sumL (xs : List Int) : Res Int := .ok xs.sum
def anyL (xs : List Bool) : Res Bool := .ok (xs.any id)
def allL (xs : List Bool) : Res Bool := .ok (xs.all id)
def strI (i : Int) : Res Str := .chk (decide (i.natAbs.log2 < 1920)) (Str.ofString (toString i))
def intB (b : Bool) : Res Int := .ok (if b then 1 else 0)
def min2 (a b : Int) : Res Int := .ok (if b < a then b else a)
def max2 (a b : Int) : Res Int := .ok (if b > a then b else a)
def sizeL {α : Type} (xs : List α) : Res (List α) := .chk (decide (xs.length ≤ sizeLn)) xs
/-- range(lo, hi) -/
def rng (lo hi : Int) : Res (List Int) := .chk (decide (-(2 ^ 62) ≤ lo ∧ lo < 2 ^ 62 ∧ -(2 ^ 62) ≤ hi ∧ hi < 2 ^ 62)) ((List.range (hi - lo).toNat).map fun (k : Nat) => lo + (k : Int))
/-! the rest of the combinators -/
def op3 {T α β γ δ : Type} (h : α → β → γ → Res δ) (f : T → Res α) (g : T → Res β) (k : T → Res γ) : T → Res δ := fun t => (f t).bind fun a => (g t).bind fun b => (k t).bind fun c => h a b c
def lcE {T α β : Type} (f : T → Res (List α)) (w : T → T) (p : T → α → T) (c : T → Res Bool) (h : T → Res β) : T → Res (List β) := fun t => (f t).bind fun xs => (lcR xs (fun a => c (p (w t) a)) (fun a => h (p (w t) a))).bind sizeL
def appF {T R α : Type} (get : T → Option (List α)) (put : T → Option (List α) → T) (f : T → Res α) : T → Out T R := fun t => match get t with
  | none => .stuck
  | some xs => match f t with
    | .ok a => if xs.length < sizeLn then .nx (put t (some (xs ++ [a]))) else .stuck
    | .ex e => .ex e t
    | .stuck => .stuck
def clearF {T R α : Type} (get : T → Option (List α)) (put : T → Option (List α) → T) : T → Out T R := fun t => match get t with
  | none => .stuck
  | some _ => .nx (put t (some []))
def chainE {T α β γ : Type} (h : α → β → Res Bool) (h2 : β → γ → Res Bool) (f : T → Res α) (g : T → Res β) (k : T → Res γ) : T → Res Bool := fun t => (f t).bind fun a => (g t).bind fun b => (h a b).bind fun x => if x = true then (k t).bind fun c => h2 b c else .ok false
structure Cls0 (n : String) where
instance {n : String} : Enc (Cls0 n) := ⟨fun _ => .ty n⟩
def retTF {T R : Type} (get : T → Option R) (p : T → Option R → T) : T → Out T R := fun t => match get t with
  | some a => .rt a (p t none)
  | none => .stuck
/-- encodings of several values; stores into several targets -/
def nilD : Unit → List D := fun _ => []
def consD {α β : Type} (ea : α → D) (eb : β → List D) : α × β → List D := fun p => ea p.1 :: eb p.2
def putN {T : Type} : T → Unit → T := fun t _ => t
def putC {T α β : Type} (p : T → α → T) (p2 : T → β → T) : T → α × β → T := fun t x => p2 (p t x.1) x.2
def putB {T α β : Type} (p : T → β → T) (fb : α → β) : T → α → T := fun t a => p t (fb a)
/-- sorted by a key -/
def keysR {α κ : Type} (key : α → Res κ) : List α → Res (List κ)
  | [] => .ok []
  | x :: xs => (key x).str.bind fun k => (keysR key xs).bind fun ks => .ok (k :: ks)
def sortK {α κ : Type} [LeO κ] (key : α → Res κ) (xs : List α) : Res (List α) := (keysR key xs).bind fun ks => .ok (((xs.zip ks).mergeSort fun p q => LeO.le p.2 q.2).map (·.1))
/-- the items in order, each once -/
def insU (x : Int) : List Int → List Int
  | [] => [x]
  | y :: ys => if x < y then x :: y :: ys else if x = y then y :: ys else y :: insU x ys
def sortU : List Int → List Int
  | [] => []
  | x :: xs => insU x (sortU xs)
/-- sorted(set(xs)) -/
def sortSet (xs : List Int) : Res (List Int) := .chk (decide (xs.length < 64)) (sortU xs)
theorem insU_mem {x z : Int} : ∀ {l : List Int}, z ∈ insU x l ↔ z = x ∨ z ∈ l
  | [] => by simp [insU]
  | y :: ys => by
    unfold insU
    split
    · simp
    · split
      · rename_i h
        subst h
        simp
      · rw [List.mem_cons, insU_mem, List.mem_cons]
        constructor
        · rintro (h | h | h)
          · exact .inr (.inl h)
          · exact .inl h
          · exact .inr (.inr h)
        · rintro (h | h | h)
          · exact .inr (.inl h)
          · exact .inl h
          · exact .inr (.inr h)
theorem insU_pw {x : Int} : ∀ {l : List Int}, l.Pairwise (· < ·) → (insU x l).Pairwise (· < ·)
  | [], _ => by simp [insU]
  | y :: ys, h => by
    cases h with
    | cons h1 h2 =>
      unfold insU
      split
      · rename_i hx
        refine .cons (fun z hz => ?_) (.cons h1 h2)
        rcases List.mem_cons.mp hz with e | e
        · omega
        · have := h1 z e
          omega
      · split
        · exact .cons h1 h2
        · refine .cons (fun z hz => ?_) (insU_pw h2)
          rcases insU_mem.mp hz with e | e
          · omega
          · exact h1 z e
theorem sortU_mem {z : Int} : ∀ {l : List Int}, z ∈ sortU l ↔ z ∈ l
  | [] => by simp [sortU]
  | x :: xs => by
    show z ∈ insU x (sortU xs) ↔ _
    rw [insU_mem, sortU_mem, List.mem_cons]
theorem sortU_pw : ∀ l : List Int, (sortU l).Pairwise (· < ·)
  | [] => .nil
  | x :: xs => insU_pw (sortU_pw xs)
/-- one list alone is in order and holds just these -/
theorem sortU_uniq {xs l : List Int} (h : l.Pairwise (· < ·)) (k : ∀ z, z ∈ l ↔ z ∈ xs) : l = sortU xs := by
  have nd : ∀ {m : List Int}, m.Pairwise (· < ·) → m.Nodup := fun h => h.imp fun {a b} z e => by omega
  have p : l.Perm (sortU xs) := (List.perm_ext_iff_of_nodup (nd h) (nd (sortU_pw xs))).mpr fun z => by rw [k, sortU_mem]
  exact List.Perm.eq_of_pairwise (le := fun a b : Int => a < b) (fun a b _ _ h1 h2 => by omega) h (sortU_pw xs) p
/-! dicts -/
section
variable {κ α β : Type} [DecidableEq κ]
def getK : List (κ × α) → κ → Option α
  | [], _ => none
  | p :: r, k => if p.1 = k then some p.2 else getK r k
def repK (kvs : List (κ × α)) (k : κ) (v : α) : List (κ × α) := kvs.map fun kv => if kv.1 = k then (kv.1, v) else kv
/-- in its place, or at the end -/
def putKv (kvs : List (κ × α)) (k : κ) (v : α) : List (κ × α) := if (getK kvs k).isSome = true then repK kvs k v else kvs ++ [(k, v)]
def dropKv (kvs : List (κ × α)) (k : κ) : List (κ × α) := kvs.filter fun kv => decide (kv.1 ≠ k)
def Dct.get (d : Dct κ α) (k : κ) : Option α := getK d.kvs k
def Dct.put (d : Dct κ α) (k : κ) (v : α) : Dct κ α := ⟨putKv d.kvs k v⟩
def Dct.drop (d : Dct κ α) (k : κ) : Dct κ α := ⟨dropKv d.kvs k⟩
/-- two dicts that are equal; nothing is told where they are not -/
def eqK [DecidableEq α] (a b : Dct κ α) : Res Bool := .chk (decide (a.kvs.length = b.kvs.length ∧ ∀ p ∈ a.kvs, b.get p.1 = some p.2)) true
def sumDV (d : Dct κ Int) : Res Int := .ok (d.kvs.map (·.2)).sum
def dgetF (d : Dct κ α) (k : κ) : Res α := .ofO (d.get k)
def dinF (k : κ) (d : Dct κ α) : Res Bool := .ok (d.get k).isSome
def dninF (k : κ) (d : Dct κ α) : Res Bool := .ok (!(d.get k).isSome)
def dlenF (d : Dct κ α) : Res Int := .ok (d.kvs.length : Int)
def dkeysF (d : Dct κ α) : Res (List κ) := .ok (d.kvs.map (·.1))
def dvalsF (d : Dct κ α) : Res (List α) := .ok (d.kvs.map (·.2))
def ditemsF (d : Dct κ α) : Res (List (T2 κ α)) := .ok (d.kvs.map fun kv => ⟨kv.1, kv.2⟩)
/-- the same keys with the same things, in whatever order -/
def deqF [DecidableEq α] (d e : Dct κ α) : Res Bool := .ok (decide (d.kvs.length = e.kvs.length) && d.kvs.all fun kv => decide (e.get kv.1 = some kv.2))
/-- d[k] = v; d a name's own -/
def dputF {S R : Type} (get : S → Option (Dct κ α)) (put : S → Option (Dct κ α) → S) (fk : S → Res κ) (fv : S → Res α) : S → Out S R := fun t => match fv t with
  | .stuck => .stuck
  | .ex e => .ex e t
  | .ok v => match get t with
    | none => .stuck
    | some d => match fk t with
      | .ok k => if d.kvs.length < sizeLn then .nx (put t (some (d.put k v))) else .stuck
      | .ex e => .ex e t
      | .stuck => .stuck
def dclearF {S R : Type} (get : S → Option (Dct κ α)) (put : S → Option (Dct κ α) → S) : S → Out S R := fun t => match get t with
  | none => .stuck
  | some _ => .nx (put t (some ⟨[]⟩))
theorem getK_rep (k j : κ) (v : α) : ∀ kvs : List (κ × α), getK (repK kvs k v) j = if j = k then (getK kvs j).map fun _ => v else getK kvs j
  | [] => by simp [getK, repK]
  | p :: r => by
    have ih := getK_rep k j v r
    unfold repK at ih ⊢
    rw [List.map_cons]
    unfold getK
    by_cases h : p.1 = k
    · rw [if_pos h]
      by_cases e : p.1 = j
      · have e2 : j = k := e.symm.trans h
        simp [e, e2]
      · simp only [e, if_false, ih]
    · rw [if_neg h]
      by_cases e : p.1 = j
      · have e2 : ¬ j = k := fun z => h (e.trans z)
        simp [e, e2]
      · simp only [e, if_false, ih]
theorem getK_app (k j : κ) (v : α) : ∀ kvs : List (κ × α), getK kvs k = none → getK (kvs ++ [(k, v)]) j = if j = k then some v else getK kvs j
  | [], _ => by
    unfold getK
    by_cases e : k = j
    · simp [e]
    · simp [e, Ne.symm e, getK]
  | p :: r, hn => by
    rw [List.cons_append]
    unfold getK at hn ⊢
    by_cases hk : p.1 = k
    · rw [if_pos hk] at hn; cases hn
    · rw [if_neg hk] at hn
      have ih := getK_app k j v r hn
      by_cases e : p.1 = j
      · have e2 : ¬ j = k := fun z => hk (e.trans z)
        simp [e, e2]
      · simp only [e, if_false, ih]
theorem get_put (d : Dct κ α) (k j : κ) (v : α) : (d.put k v).get j = if j = k then some v else d.get j := by
  unfold Dct.put Dct.get putKv
  split
  · rename_i h
    rw [getK_rep]
    split
    · rename_i e
      subst e
      obtain ⟨a, ha⟩ := Option.isSome_iff_exists.mp h
      rw [ha]; rfl
    · rfl
  · rename_i h
    exact getK_app k j v _ (by simpa using h)
theorem getK_mem {k : κ} {v : α} : ∀ {kvs : List (κ × α)}, getK kvs k = some v → (k, v) ∈ kvs
  | [], h => by simp [getK] at h
  | p :: r, h => by
    unfold getK at h
    by_cases e : p.1 = k
    · rw [if_pos e] at h
      cases h
      subst e
      exact .head _
    · rw [if_neg e] at h
      exact .tail _ (getK_mem h)
theorem getK_some {k : κ} : ∀ {kvs : List (κ × α)}, (getK kvs k).isSome = true ↔ k ∈ kvs.map (·.1)
  | [] => by simp [getK]
  | p :: r => by
    unfold getK
    by_cases e : p.1 = k
    · simp [e]
    · rw [if_neg e, getK_some, List.map_cons, List.mem_cons]
      exact ⟨.inr, fun z => z.elim (fun z => absurd z.symm e) id⟩
theorem keys_put (d : Dct κ α) (k : κ) (v : α) : (d.put k v).kvs.map (·.1) = if k ∈ d.kvs.map (·.1) then d.kvs.map (·.1) else d.kvs.map (·.1) ++ [k] := by
  unfold Dct.put putKv
  by_cases h : (getK d.kvs k).isSome = true
  · rw [if_pos h, if_pos (getK_some.mp h)]
    show (repK d.kvs k v).map (·.1) = _
    unfold repK
    rw [List.map_map]
    apply List.map_congr_left
    intro a _
    simp only [Function.comp]
    split <;> rfl
  · rw [if_neg h, if_neg (fun z => h (getK_some.mpr z))]
    simp
theorem getK_of_mem {k : κ} {v : α} : ∀ {kvs : List (κ × α)}, (kvs.map (·.1)).Nodup → (k, v) ∈ kvs → getK kvs k = some v
  | [], _, h => by simp at h
  | p :: r, n, h => by
    rw [List.map_cons, List.nodup_cons] at n
    unfold getK
    rcases List.mem_cons.mp h with e | e
    · subst e; rw [if_pos rfl]
    · have : ¬ p.1 = k := fun z => n.1 (by rw [z]; exact List.mem_map.mpr ⟨_, e, rfl⟩)
      rw [if_neg this]
      exact getK_of_mem n.2 e
end
/-! ### any data -/
mutual
/-- Python's == of data -/
def eqvD : D → D → Bool
  | .non, .non => true
  | .bl a, .bl b => a == b
  | .bl a, .int j => (if a then 1 else 0) == j
  | .int i, .bl b => i == (if b then 1 else 0)
  | .int i, .int j => i == j
  | .str x, .str y => x == y
  | .lst xs, .lst ys => eqvDs xs ys
  | .tup xs, .tup ys => eqvDs xs ys
  | _, _ => false
def eqvDs : List D → List D → Bool
  | [], [] => true
  | x :: xs, y :: ys => eqvD x y && eqvDs xs ys
  | [], _ :: _ => false
  | _ :: _, [] => false
end
mutual
/-- None, truths, numbers, texts, lists, tuples, so deep at most -/
def okD : D → Nat → Bool
  | .non, _ => true
  | .bl _, _ => true
  | .int _, _ => true
  | .str _, _ => true
  | .lst xs, n => decide (0 < n) && okDs xs (n - 1)
  | .tup xs, n => decide (0 < n) && okDs xs (n - 1)
  | _, _ => false
def okDs : List D → Nat → Bool
  | [], _ => true
  | x :: xs, n => okD x n && okDs xs n
end
def eqD (a b : D) : Res Bool := .chk (okD a 30 && okD b 30) (eqvD a b)
def neD (a b : D) : Res Bool := .chk (okD a 30 && okD b 30) (!eqvD a b)
def inD (a : D) (xs : List D) : Res Bool := .chk (okD a 30 && okDs xs 30) (xs.any fun x => eqvD x a)
def ninD (a : D) (xs : List D) : Res Bool := .chk (okD a 30 && okDs xs 30) (!xs.any fun x => eqvD x a)
/-- the built-in class -/
def tyD : D → Option String
  | .non => some "NoneType"
  | .bl _ => some "bool"
  | .int _ => some "int"
  | .str _ => some "str"
  | .lst _ => some "list"
  | .scr _ => some "list"
  | .tup _ => some "tuple"
  | .dic _ _ => some "dict"
  | .dit _ _ => some "dict"
  | _ => none
def subTy (t n : String) : Bool := t == n || (t == "bool" && n == "int") || n == "object"
def isD (n : String) (d : D) : Res Bool := (Res.ofO (tyD d)).bind fun t => .ok (subTy t n)
def noD (d : D) (_ : Unit) : Res Bool := match d with
  | .non => .ok true
  | .hnd _ => .ok false
  | .adr _ => .stuck
  | .exo _ _ _ => .stuck
  | .gl _ => .stuck
  | .ty _ => .stuck
  | .obj _ _ _ => .stuck
  | _ => .ok false
def nnoD (d : D) (u : Unit) : Res Bool := (noD d u).bind fun b => .ok (!b)
/-- data seen as of a type -/
class Dec (α : Type) [Enc α] where
  dec : D → Option α
  ok : ∀ {d : D} {a : α}, dec d = some a → Enc.enc a = d
def asT (α : Type) [Enc α] [Dec α] (d : D) : Res α := .ofO (Dec.dec d)
instance : Dec D := ⟨some, fun h => Option.some.inj h ▸ rfl⟩
instance : Dec Int := ⟨fun d => match d with | .int i => some i | _ => none, fun {d a} h => by cases d <;> cases h; rfl⟩
instance : Dec Bool := ⟨fun d => match d with | .bl i => some i | _ => none, fun {d a} h => by cases d <;> cases h; rfl⟩
instance : Dec Str := ⟨fun d => match d with | .str i => some i | _ => none, fun {d a} h => by cases d <;> cases h; rfl⟩
instance : Dec Unit := ⟨fun d => match d with | .non => some () | _ => none, fun {d a} h => by cases d <;> cases h; rfl⟩
instance {α : Type} [Enc α] [q : Dec α] : Dec (Option α) := ⟨fun d => match d with | .non => some none | d => (q.dec d).map some, fun {d a} h => by
  have go : ∀ d : D, (q.dec d).map some = some a → Enc.enc a = d := fun d h => by
    cases e : q.dec d with
    | none => rw [e] at h; cases h
    | some b => rw [e] at h; cases h; exact q.ok e
  cases d <;> first | (cases h; rfl) | exact go _ h⟩
def decs {α : Type} (f : D → Option α) : List D → Option (List α)
  | [] => some []
  | d :: ds => (f d).bind fun a => (decs f ds).map fun r => a :: r
theorem decs_ok {α : Type} [Enc α] [q : Dec α] : ∀ {ds : List D} {xs : List α}, decs q.dec ds = some xs → xs.map Enc.enc = ds
  | [], xs, h => by cases h; rfl
  | d :: ds, xs, h => by
    unfold decs at h
    obtain ⟨a, ha, h⟩ := Option.bind_eq_some_iff.mp h
    obtain ⟨r, hr, rfl⟩ := Option.map_eq_some_iff.mp h
    rw [List.map_cons, decs_ok hr, q.ok ha]
instance {α : Type} [Enc α] [q : Dec α] : Dec (List α) := ⟨fun d => match d with | .lst ds => decs q.dec ds | _ => none, fun {d a} h => by
  cases d with
  | lst ds => exact congrArg D.lst (decs_ok h)
  | _ => cases h⟩
instance {α β : Type} [Enc α] [Enc β] [q : Dec α] [r : Dec β] : Dec (T2 α β) := ⟨fun d => match d with | .tup [x, y] => (q.dec x).bind fun a => (r.dec y).map fun b => ⟨a, b⟩ | _ => none, fun {d a} h => by
  split at h
  · obtain ⟨a, ha, h⟩ := Option.bind_eq_some_iff.mp h
    obtain ⟨b, hb, rfl⟩ := Option.map_eq_some_iff.mp h
    show D.tup [Enc.enc a, Enc.enc b] = _
    rw [q.ok ha, r.ok hb]
  · cases h⟩
instance {α β γ : Type} [Enc α] [Enc β] [Enc γ] [q : Dec α] [r : Dec β] [s : Dec γ] : Dec (T3 α β γ) := ⟨fun d => match d with | .tup [x, y, z] => (q.dec x).bind fun a => (r.dec y).bind fun b => (s.dec z).map fun c => ⟨a, b, c⟩ | _ => none, fun {d a} h => by
  split at h
  · obtain ⟨a, ha, h⟩ := Option.bind_eq_some_iff.mp h
    obtain ⟨b, hb, h⟩ := Option.bind_eq_some_iff.mp h
    obtain ⟨c, hc, rfl⟩ := Option.map_eq_some_iff.mp h
    show D.tup [Enc.enc a, Enc.enc b, Enc.enc c] = _
    rw [q.ok ha, r.ok hb, s.ok hc]
  · cases h⟩
instance {α β γ δ : Type} [Enc α] [Enc β] [Enc γ] [Enc δ] [q : Dec α] [r : Dec β] [s : Dec γ] [u : Dec δ] : Dec (T4 α β γ δ) := ⟨fun d => match d with | .tup [x, y, z, v] => (q.dec x).bind fun a => (r.dec y).bind fun b => (s.dec z).bind fun c => (u.dec v).map fun e => ⟨a, b, c, e⟩ | _ => none, fun {d a} h => by
  split at h
  · obtain ⟨a, ha, h⟩ := Option.bind_eq_some_iff.mp h
    obtain ⟨b, hb, h⟩ := Option.bind_eq_some_iff.mp h
    obtain ⟨c, hc, h⟩ := Option.bind_eq_some_iff.mp h
    obtain ⟨e, he, rfl⟩ := Option.map_eq_some_iff.mp h
    show D.tup [Enc.enc a, Enc.enc b, Enc.enc c, Enc.enc e] = _
    rw [q.ok ha, r.ok hb, s.ok hc, u.ok he]
  · cases h⟩
/-! ### what may write -/
inductive OutX (T α : Type) where
  | ok (a : α) (t : T) | ex (e : Exn) (t : T) | stuck
section
variable {T R α β γ ω : Type}
def liftR (r : Res α) (t : T) : OutX T α := match r with
  | .ok a => .ok a t
  | .ex e => .ex e t
  | .stuck => .stuck
def OutX.bind (o : OutX T α) (k : α → T → OutX T β) : OutX T β := match o with
  | .ok a t => k a t
  | .ex e t => .ex e t
  | .stuck => .stuck
def liftX (f : T → Res α) : T → OutX T α := fun t => liftR (f t) t
def xop1 (g : α → Res β) (f : T → OutX T α) : T → OutX T β := fun t => (f t).bind fun a t => liftR (g a) t
def xop2 (g : α → β → Res γ) (f : T → OutX T α) (h : T → OutX T β) : T → OutX T γ := fun t => (f t).bind fun a t => (h t).bind fun b t => liftR (g a b) t
def xite (c : T → OutX T Bool) (a b : T → OutX T α) : T → OutX T α := fun t => (c t).bind fun x t => if x = true then a t else b t
def xand (c d : T → OutX T Bool) : T → OutX T Bool := fun t => (c t).bind fun x t => if x = true then d t else .ok false t
def xor_ (c d : T → OutX T Bool) : T → OutX T Bool := fun t => (c t).bind fun x t => if x = true then .ok true t else d t
def xnot (c : T → OutX T Bool) : T → OutX T Bool := fun t => (c t).bind fun x t => .ok (!x) t
/-- statements upon it -/
def andX (f : T → OutX T α) (k : α → T → Out T R) : T → Out T R := fun t => match f t with
  | .ok a t => k a t
  | .ex e t => .ex e t
  | .stuck => .stuck
def asgX (f : T → OutX T α) (put : T → α → T) : T → Out T R := andX f fun a t => .nx (put t a)
def dropX (f : T → OutX T α) : T → Out T R := andX f fun _ t => .nx t
def retX (f : T → OutX T R) : T → Out T R := andX f fun a t => .rt a t
def ifX (c : T → OutX T Bool) (a b : T → Out T R) : T → Out T R := andX c fun x t => if x = true then a t else b t
def forX (f : T → OutX T (List α)) (put : T → α → T) (body : T → Out T R) : T → Out T R := andX f fun xs t => loopL put body xs t
/-- a def's end: its value, and the world -/
def endX (gw : T → ω) (o : Out T R) : OutX ω R := match o with
  | .rt r t => .ok r (gw t)
  | .ex e t => .ex e (gw t)
  | _ => .stuck
def endXU (gw : T → ω) (o : Out T Unit) : OutX ω Unit := match o with
  | .rt r t => .ok r (gw t)
  | .nx t => .ok () (gw t)
  | .ex e t => .ex e (gw t)
  | _ => .stuck
/-- the world behind a call -/
def OutX.back (pw : T → ω → T) (t : T) : OutX ω β → OutX T β
  | .ok r w => .ok r (pw t w)
  | .ex e w => .ex e (pw t w)
  | .stuck => .stuck
/-- a call that may write the world -/
def callX (gw : T → ω) (pw : T → ω → T) (F : α → ω → OutX ω β) (g : T → OutX T α) : T → OutX T β := fun t => (g t).bind fun a t => (F a (gw t)).back pw t
end
/-! handles, things of the world -/
structure Hn where
  i : Nat
  deriving DecidableEq
instance : Enc Hn := ⟨fun h => .hnd h.i⟩
instance : Dec Hn := ⟨fun d => match d with | .hnd i => some ⟨i⟩ | _ => none, fun {d a} h => by cases d <;> cases h; rfl⟩
inductive Kd where
  | obj (c : Str) (fs : List (Str × Option D)) | box (d : D)
class Wd (ω : Type) where
  kd : ω → Kd
def nsOf (fs : List (Str × Option D)) : List Str := fs.filterMap fun p => p.2.map fun _ => p.1
def vsOf (fs : List (Str × Option D)) : List D := fs.filterMap fun p => p.2
def Kd.enc : Kd → D
  | .obj c fs => .obj c (nsOf fs) (vsOf fs)
  | .box d => d
def encW {ω : Type} [Wd ω] (o : ω) : D := (Wd.kd o).enc
def clsW {ω : Type} [Wd ω] (o : ω) : Option Str := match Wd.kd o with
  | .obj c _ => some c
  | .box _ => none
/-- may the field be stored so: it is there, or all behind it are not yet -/
def stO (f : Str) : List (Str × Option D) → Bool
  | [] => false
  | (g, o) :: r => if g = f then o.isSome || r.all (fun p => p.2.isNone) else stO f r
def putO (f : Str) (d : D) : List (Str × Option D) → List (Str × Option D)
  | [] => []
  | (g, o) :: r => if g = f then (g, some d) :: r else (g, o) :: putO f d r
/-- a thing's field, read -/
def fldF {ω T α : Type} (gw : T → List ω) (get : ω → Option α) (fo : T → Res Hn) : T → Res α := fun t => (fo t).bind fun h => .ofO ((gw t)[h.i]?.bind get)
/-- o.f = e -/
def stoF {ω T R α : Type} (gw : T → List ω) (pw : T → List ω → T) (set : ω → α → Option ω) (fo : T → Res Hn) (fe : T → OutX T α) : T → Out T R := andX fe fun a t => match fo t with
  | .ok h => match (gw t)[h.i]?.bind fun o => set o a with
    | some o => .nx (pw t ((gw t).set h.i o))
    | none => .stuck
  | .ex e => .ex e t
  | .stuck => .stuck
/-- by the kind of the thing -/
def rowOf {ω ρ : Type} [Wd ω] (rows : List (Str × ρ)) (w : List ω) (h : Hn) : Option ρ := (w[h.i]?.bind clsW).bind fun c => rows.lookup c
/-- o.m(..), it may write -/
def methX {T ω α β : Type} [Wd ω] (gw : T → List ω) (pw : T → List ω → T) (rows : List (Str × (Hn × α → List ω → OutX (List ω) β))) (fo : T → OutX T Hn) (ga : T → OutX T α) : T → OutX T β := fun t => (fo t).bind fun h t => match rowOf rows (gw t) h with
  | none => .stuck
  | some F => callX gw pw (fun a w => F (h, a) w) ga t
/-- o.m(..), it reads -/
def methR {T ω α β : Type} [Wd ω] (gw : T → List ω) (rows : List (Str × (Hn × α → List ω → Res β))) (fo : T → Res Hn) (ga : T → Res α) : T → Res β := fun t => (fo t).bind fun h => match rowOf rows (gw t) h with
  | none => .stuck
  | some F => (ga t).bind fun a => F (h, a) (gw t)
/-- a new thing -/
def newX {T ω α : Type} (gw : T → List ω) (pw : T → List ω → T) (mk : ω) (F : Hn × α → List ω → OutX (List ω) Unit) (ga : T → OutX T α) : T → OutX T Hn := fun t => (ga t).bind fun a t => match F (⟨(gw t).length⟩, a) (gw t ++ [mk]) with
  | .ok _ w => .ok ⟨(gw t).length⟩ (pw t w)
  | .ex e w => .ex e (pw t w)
  | .stuck => .stuck
/-- isinstance of a thing -/
def isW {T ω : Type} [Wd ω] (gw : T → List ω) (rows : List (Str × Bool)) (fo : T → Res Hn) : T → Res Bool := fun t => (fo t).bind fun h => .ofO (rowOf rows (gw t) h)
/-! in-place changes -/
/-- a method of a container: what it tells, and the container behind it -/
def mutX {T γ δ β : Type} (get : T → Res γ) (set : T → γ → T) (ga : T → Res β) (F : γ → β → Res (δ × γ)) : T → OutX T δ := fun t => match get t with
  | .ok c => match ga t with
    | .ok b => match F c b with
      | .ok r => .ok r.1 (set t r.2)
      | .ex e => .ex e t
      | .stuck => .stuck
    | .ex e => .ex e t
    | .stuck => .stuck
  | .ex e => .ex e t
  | .stuck => .stuck
def lAppend {α : Type} (xs : List α) (a : α × Unit) : Res (Unit × List α) := .chk (decide (xs.length < sizeLn)) ((), xs ++ [a.1])
def lInsert {α : Type} (xs : List α) (a : Int × α × Unit) : Res (Unit × List α) := .chk (decide (xs.length < sizeLn ∧ 0 ≤ a.1 ∧ a.1 < 2 ^ 63)) ((), xs.take a.1.toNat ++ [a.2.1] ++ xs.drop a.1.toNat)
def lPopAt {α : Type} (xs : List α) (a : Int × Unit) : Res (α × List α) := (Res.chk (decide (-(2 ^ 63) ≤ a.1 ∧ a.1 < 2 ^ 63)) ()).bind fun _ => (Res.ofO (ixN xs.length a.1)).bind fun k => (Res.ofO xs[k]?).bind fun x => .ok (x, xs.eraseIdx k)
def lExtend {α : Type} (xs : List α) (a : List α × Unit) : Res (Unit × List α) := .chk (decide (xs.length + a.1.length ≤ sizeLn)) ((), xs ++ a.1)
def dPop {κ α : Type} [DecidableEq κ] (d : Dct κ α) (a : κ × Unit) : Res (α × Dct κ α) := (Res.ofO (d.get a.1)).bind fun x => .ok (x, d.drop a.1)
/-- o.f's container -/
def fldSet {ω T α : Type} (gw : T → List ω) (pw : T → List ω → T) (put : ω → α → ω) (fo : T → Res Hn) : T → α → T := fun t a => match fo t with
  | .ok h => match (gw t)[h.i]? with
    | some o => pw t ((gw t).set h.i (put o a))
    | none => t
  | _ => t
/-- d[k] = v -/
def dputX {T R κ α : Type} [DecidableEq κ] (get : T → Res (Dct κ α)) (set : T → Dct κ α → T) (fk : T → Res κ) (fv : T → OutX T α) : T → Out T R := andX fv fun v t => match get t with
  | .ok d => match fk t with
    | .ok k => if d.kvs.length < sizeLn then .nx (set t (d.put k v)) else .stuck
    | .ex e => .ex e t
    | .stuck => .stuck
  | .ex e => .ex e t
  | .stuck => .stuck
/-- d.get(k) -/
def dgetO {κ α : Type} [DecidableEq κ] (d : Dct κ α) (k : κ) : Res (Option α) := .ok (d.get k)
/-! exceptions caught -/
structure Hdl (T R : Type) where
  test : List (Str × Bool)
  suite : Exn → T → Out T R
def tryGo {T R : Type} : List (Hdl T R) → Exn → T → Out T R
  | [], e, t => .ex e t
  | h :: r, e, t => match h.test.lookup e.cls with
    | some true => h.suite e t
    | some false => tryGo r e t
    | none => .stuck
/-- isinstance of a caught exception; the name that it bears -/
def isX (rows : List (Str × Bool)) (e : Exn) : Res Bool := .ofO (rows.lookup e.cls)
def nameX (cs : List Str) (e : Exn) : Res Str := .ofO (if e.cls ∈ cs then e.arg else none)
/-- try: body / except ..: -/
def tryS {T R : Type} (body : T → Out T R) (hs : List (Hdl T R)) : T → Out T R := fun t => match body t with
  | .ex e t' => tryGo hs e t'
  | .nx t' => .nx t'
  | .rt r t' => .rt r t'
  | .bk t' => .bk t'
  | .ct t' => .ct t'
  | .stuck => .stuck
/-- a suite with the name of what is caught -/
def asSu {T R : Type} (G : Exn → Option Unit × T → Out (Option Unit × T) R) : Exn → T → Out T R := fun e t => match G e (some (), t) with
  | .nx t' => .nx t'.2
  | .rt r t' => .rt r t'.2
  | .bk t' => .bk t'.2
  | .ct t' => .ct t'.2
  | .ex x t' => .ex x t'.2
  | .stuck => .stuck
/-- e.name -/
def exName {T : Type} (rows : List Str) (e : Exn) : T → Res Str := fun _ => if rows.contains e.cls = true then .ofO e.arg else .stuck
/-- isinstance(e, X) -/
def exIs {T : Type} (rows : List (Str × Bool)) (e : Exn) : T → Res Bool := fun _ => .ofO (rows.lookup e.cls)
/-- a walk over a name's own list, which is put aside meanwhile -/
def forT {T R α : Type} (get : T → Option (List α)) (p : T → Option (List α) → T) (put : Option Unit × T → α → Option Unit × T) (body : Option Unit × T → Out (Option Unit × T) R) : T → Out T R := fun t => match get t with
  | none => .stuck
  | some xs => match loopL put body xs (some (), p t none) with
    | .nx t' => match t'.1, get t'.2 with
      | some _, none => .nx (p t'.2 (some xs))
      | _, _ => .stuck
    | .rt r t' => .rt r t'.2
    | .ex e t' => .ex e t'.2
    | _ => .stuck
def ltIS (a b : T2 Int Str) : Res Bool := .ok (if a.a = b.a then decide (a.b.cps.toList < b.b.cps.toList) else decide (a.a < b.a))
/-- xs[i] = v -/
def lputX {T R α : Type} (get : T → Res (List α)) (set : T → List α → T) (fi : T → Res Int) (fv : T → OutX T α) : T → Out T R := andX fv fun v t => match get t with
  | .ok xs => match fi t with
    | .ok i => match ixN xs.length i with
      | some j => .nx (set t (xs.set j v))
      | none => .stuck
    | .ex e => .ex e t
    | .stuck => .stuck
  | .ex e => .ex e t
  | .stuck => .stuck
def isNU (_ _ : Unit) : Res Bool := .ok true
def notNU (_ _ : Unit) : Res Bool := .ok false
/-- a text so many times -/
def mulT (x : Str) (n : Int) : Res Str := .chk (decide (-(2 ^ 31) < n ∧ n < 2 ^ 31 ∧ x.length * n.toNat ≤ sizeLn ∧ x.length < 2 ^ 31)) (if n < 1 then PySem.Str.empty else if (n == 1 || x.length == 0) = true then x else ⟨(List.replicate n.toNat x.cps).foldl (· ++ ·) #[]⟩)
end M

namespace M
open PySem
/-! ### plain operations, added behind M0 -/
/-- text.split(sign) -/
def splitL (c : Nat) : List Nat → List (List Nat)
  | [] => [[]]
  | a :: r => if a = c then [] :: splitL c r else match splitL c r with
    | [] => [[a]]
    | p :: q => (a :: p) :: q
def splitT (a b : Str) : Res (List Str) := match b.cps.toList with
  | [c] => .chk (decide (a.length + 2 ≤ sizeLn)) ((splitL c a.cps.toList).map fun p => ⟨p.toArray⟩)
  | _ => .stuck
theorem splitL_ne {c : Nat} : ∀ {l : List Nat}, splitL c l ≠ []
  | [], h => nomatch h
  | a :: r, h => by
    unfold splitL at h
    split at h
    · exact nomatch h
    · split at h <;> exact nomatch h
/-- the parts with the sign between -/
def glueL (c : Nat) : List (List Nat) → List Nat
  | [] => []
  | [p] => p
  | p :: q :: r => p ++ c :: glueL c (q :: r)
theorem splitL_app {c : Nat} : ∀ {p l : List Nat}, c ∉ p → splitL c (p ++ c :: l) = p :: splitL c l
  | [], l, _ => by
    show splitL c (c :: l) = _
    conv => lhs; unfold splitL
    rw [if_pos rfl]
  | a :: p, l, h => by
    have ha : ¬ a = c := fun e => h (e ▸ List.mem_cons_self)
    have hp : c ∉ p := fun m => h (List.mem_cons_of_mem _ m)
    show splitL c (a :: (p ++ c :: l)) = _
    conv => lhs; unfold splitL
    rw [if_neg ha, splitL_app hp]
theorem splitL_one {c : Nat} : ∀ {p : List Nat}, c ∉ p → splitL c p = [p]
  | [], _ => rfl
  | a :: p, h => by
    have ha : ¬ a = c := fun e => h (e ▸ List.mem_cons_self)
    have hp : c ∉ p := fun m => h (List.mem_cons_of_mem _ m)
    conv => lhs; unfold splitL
    rw [if_neg ha, splitL_one hp]
theorem splitL_glue {c : Nat} : ∀ {ps : List (List Nat)}, ps ≠ [] → (∀ p ∈ ps, c ∉ p) → splitL c (glueL c ps) = ps
  | [], h, _ => absurd rfl h
  | [p], _, h => splitL_one (h p List.mem_cons_self)
  | p :: q :: r, _, h => by
    show splitL c (p ++ c :: glueL c (q :: r)) = _
    have h2 : splitL c (glueL c (q :: r)) = q :: r := splitL_glue (fun z => List.cons_ne_nil _ _ z) fun x hx => h x (List.mem_cons_of_mem _ hx)
    rw [splitL_app (h p List.mem_cons_self), h2]
theorem glueL_join {c : Nat} : ∀ {ps : List Str}, (Str.join ⟨#[c]⟩ ps).cps.toList = glueL c (ps.map fun p => p.cps.toList)
  | [] => rfl
  | [p] => rfl
  | p :: q :: r => by
    show (p ++ ⟨#[c]⟩ ++ Str.join ⟨#[c]⟩ (q :: r)).cps.toList = p.cps.toList ++ c :: glueL c ((q :: r).map fun p => p.cps.toList)
    show (p.cps ++ #[c] ++ (Str.join ⟨#[c]⟩ (q :: r)).cps).toList = _
    rw [Array.toList_append, Array.toList_append, glueL_join (ps := q :: r), List.append_assoc]
    rfl
theorem splitL_mem {c : Nat} : ∀ {l p : List Nat}, p ∈ splitL c l → ∀ a ∈ p, a ∈ l
  | [], p, h, a, ha => by
    rw [List.mem_singleton.mp h] at ha
    exact ha
  | b :: r, p, h, a, ha => by
    unfold splitL at h
    split at h
    · rcases List.mem_cons.mp h with rfl | h
      · exact nomatch ha
      · exact List.mem_cons_of_mem _ (splitL_mem h a ha)
    · split at h
      · rename_i e
        exact absurd e splitL_ne
      · rename_i p1 q e
        rcases List.mem_cons.mp h with rfl | h
        · rcases List.mem_cons.mp ha with rfl | ha
          · exact List.mem_cons_self
          · exact List.mem_cons_of_mem _ (splitL_mem (by rw [e]; exact List.mem_cons_self) a ha)
        · exact List.mem_cons_of_mem _ (splitL_mem (by rw [e]; exact List.mem_cons_of_mem _ h) a ha)
/-- what is new, into a box of the world -/
def boxX {ω T α : Type} (gw : T → List ω) (pw : T → List ω → T) (mk : α → ω) (f : T → OutX T α) : T → OutX T Hn := fun t => (f t).bind fun a t => .ok ⟨(gw t).length⟩ (pw t (gw t ++ [mk a]))
/-- bits of whole numbers from 0 on -/
def andI (a b : Int) : Res Int := .chk (decide (0 ≤ a ∧ 0 ≤ b)) ((a.toNat &&& b.toNat : Nat) : Int)
def orI (a b : Int) : Res Int := .chk (decide (0 ≤ a ∧ 0 ≤ b)) ((a.toNat ||| b.toNat : Nat) : Int)
def xorI (a b : Int) : Res Int := .chk (decide (0 ≤ a ∧ 0 ≤ b)) ((a.toNat ^^^ b.toNat : Nat) : Int)
def shlI (a b : Int) : Res Int := .chk (decide (0 ≤ b ∧ b ≤ 1000 ∧ a.natAbs < 2 ^ 1000)) (a * 2 ^ b.toNat)
def bitsI (a : Int) : Res Int := .ok ((if a = 0 then 0 else a.natAbs.log2 + 1 : Nat) : Int)
def dmodI (a b : Int) : Res (T2 Int Int) := .chk (decide (0 < b ∧ b < 1073741824)) ⟨a / b, a % b⟩
/-- min -/
def minZ (n : Int) (ns : List Int) : Int := ns.foldl (fun a y => if y < a then y else a) n
def minL (xs : List Int) : Res Int := match xs with
  | [] => .stuck
  | n :: ns => .ok (minZ n ns)
def minO (xs : List Int) : Option Int := match xs with
  | [] => none
  | n :: ns => some (minZ n ns)
/-- xs.pop() -/
def lPop {α : Type} (xs : List α) (_ : Unit) : Res (α × List α) := (Res.ofO xs[xs.length - 1]?).bind fun x => .ok (x, xs.dropLast)
end M

set_option linter.all false
set_option Elab.async false
set_option maxRecDepth 100000
set_option maxHeartbeats 4000000
namespace M
open Enc (enc)
open PySem PySem.Spec PyProof.Rows L2 W
abbrev FP := Addr → Prop
abbrev Emp : FP := fun _ => False
/-- no table of code objects -/
abbrev NT (o : HO) : Prop := ∀ ps, o ≠ .tbl ps
abbrev sOk (s : Str) : Bool := PyData.strOk s
def Disj (P Q : FP) : Prop := ∀ x, P x → ¬ Q x
/-- keys that may be told -/
def kOk : Ky → Bool
  | .inl _ => true
  | .inr x => sOk x
/-- as many keys as things, and the keys may be told -/
structure KL (ks : List Ky) (ws : List V) : Prop where
  len : ks.length = ws.length
  ok : ∀ k ∈ ks, kOk k = true
structure KT (ks : List (List Ky)) (ws : List V) : Prop where
  len : ks.length = ws.length
  ok : ∀ k ∈ ks, k ≠ [] ∧ ∀ x ∈ k, kOk x = true
/-- what is shared: its objects, and where the things of the world lie -/
structure Sh where
  h : Hp
  mu : Nat → Option Addr
instance : CoeFun Sh fun _ => Addr → Option HO := ⟨Sh.h⟩
instance : Coe Sh Hp := ⟨Sh.h⟩
/-- more is shared -/
structure SL (S S' : Sh) : Prop where
  le : Same S.h S'.h
  mu : ∀ i a, S.mu i = some a → S'.mu i = some a
instance {S S' : Sh} : CoeFun (SL S S') (fun _ => ∀ x o, S.h x = some o → S'.h x = some o) := ⟨fun s => s.le⟩
theorem SL.refl (S : Sh) : SL S S := ⟨Same.refl S.h, fun _ _ e => e⟩
theorem SL.trans {S S' S2 : Sh} (a : SL S S') (b : SL S' S2) : SL S S2 := ⟨a.le.trans b.le, fun i x e => b.mu i x (a.mu i x e)⟩
theorem SL.rd {S S' : Sh} {p : Addr} {u : HO} (s : SL S S') (e : Rd S.h p u) : Rd S'.h p u := e.imp (fun e => s _ _ e) fun ⟨o, e⟩ => ⟨o, s _ _ e⟩
theorem rdLe {H H' : Hp} {p : Addr} {u : HO} (s : Same H H') (e : Rd H p u) : Rd H' p u := e.imp (fun e => s _ _ e) fun ⟨o, e⟩ => ⟨o, s _ _ e⟩
theorem SL.seq {S S' : Sh} {K : PySem.W.Frag} {p : Addr} {ws : List V} (s : SL S S') (e : SqL K S p ws) : SqL K S' p ws := s.le.seq e
def Sh.upd (S : Sh) (p : Addr) (o : HO) : Sh := ⟨L2.upd S.h p o, S.mu⟩
/-- the values vs are the data ds: S what is shared (never written again), H all; P: the addresses that these data own alone -/
inductive Rep (K : PySem.W.Frag) (S : Sh) (H : Hp) : List V → List D → FP → Prop
  | nil : Rep K S H [] [] Emp
  | non {vs : List V} {ds : List D} {P : FP} : Rep K S H vs ds P → Rep K S H (.non :: vs) (.non :: ds) P
  | bl (b : Bool) {vs : List V} {ds : List D} {P : FP} : Rep K S H vs ds P → Rep K S H (.bl b :: vs) (.bl b :: ds) P
  | int (i : Int) {vs : List V} {ds : List D} {P : FP} : Rep K S H vs ds P → Rep K S H (.int i :: vs) (.int i :: ds) P
  | str (s : Str) {vs : List V} {ds : List D} {P : FP} : sOk s = true → Rep K S H vs ds P → Rep K S H (.str s :: vs) (.str s :: ds) P
  | gl (x : Str) {vs : List V} {ds : List D} {P : FP} : Rep K S H vs ds P → Rep K S H (.ref (He.ga K x) :: vs) (.gl x :: ds) P
  | hnd (i : Nat) {a : Addr} {vs : List V} {ds : List D} {P : FP} : S.mu i = some a → Rep K S H vs ds P → Rep K S H (.ref a :: vs) (.hnd i :: ds) P
  | exo (a d : Addr) (n : Str) {vs : List V} {ds : List D} {P : FP} : S d = some (.xd [("name", .str n)]) → sOk n = true → Rep K S H vs ds P → Rep K S H (.ref a :: vs) (.exo a d n :: ds) P
  | adr (a : Addr) {vs : List V} {ds : List D} {P : FP} : Rep K S H vs ds P → Rep K S H (.ref a :: vs) (.adr a :: ds) P
  | ty (n : String) {vs : List V} {ds : List D} {P : FP} : Rep K S H vs ds P → Rep K S H (.ty n :: vs) (.ty n :: ds) P
  | scr {p : Addr} {ws vs : List V} {es ds : List D} {P : FP} : SqL K S p ws → Rep K S H ws es Emp → Rep K S H vs ds P → Rep K S H (.ref p :: vs) (.scr es :: ds) P
  | shl {p : Addr} {ws vs : List V} {es ds : List D} {P : FP} : S p = some (.lst ws) → Rep K S H ws es Emp → Rep K S H vs ds P → Rep K S H (.ref p :: vs) (.lst es :: ds) P
  | shd {p : Addr} {ks : List Ky} {ws vs : List V} {es ds : List D} {P : FP} : Rd S.h p (.dK (ks.zip ws)) → KL ks ws → Rep K S H ws es Emp → Rep K S H vs ds P → Rep K S H (.ref p :: vs) (.dic ks es :: ds) P
  | sht {p : Addr} {ks : List (List Ky)} {ws vs : List V} {es ds : List D} {P : FP} : S p = some (.dT (ks.zip ws)) → KT ks ws → Rep K S H ws es Emp → Rep K S H vs ds P → Rep K S H (.ref p :: vs) (.dit ks es :: ds) P
  | owl {p : Addr} {ws vs : List V} {es ds : List D} {P1 P : FP} : H p = some (.lst ws) → Rep K S H ws es P1 → Rep K S H vs ds P → ¬ P1 p → ¬ P p → Disj P1 P → Rep K S H (.ref p :: vs) (.lst es :: ds) (fun x => x = p ∨ P1 x ∨ P x)
  | tup {p : Addr} {ws vs : List V} {es ds : List D} {P1 P : FP} : SqT K S p ws → Rep K S H ws es P1 → Rep K S H vs ds P → ¬ P1 p → Disj P1 P → Rep K S H (.ref p :: vs) (.tup es :: ds) (fun x => P1 x ∨ P x)
  | dic {p : Addr} {ks : List Ky} {ws vs : List V} {es ds : List D} {P1 P : FP} : H p = some (.dK (ks.zip ws)) → KL ks ws → Rep K S H ws es P1 → Rep K S H vs ds P → ¬ P1 p → ¬ P p → Disj P1 P →
      Rep K S H (.ref p :: vs) (.dic ks es :: ds) (fun x => x = p ∨ P1 x ∨ P x)
  | dit {p : Addr} {ks : List (List Ky)} {ws vs : List V} {es ds : List D} {P1 P : FP} : H p = some (.dT (ks.zip ws)) → KT ks ws → Rep K S H ws es P1 → Rep K S H vs ds P → ¬ P1 p → ¬ P p → Disj P1 P →
      Rep K S H (.ref p :: vs) (.dit ks es :: ds) (fun x => x = p ∨ P1 x ∨ P x)
  | obj {p dx : Addr} {c : Str} {ns : List Str} {ws vs : List V} {es ds : List D} {P1 P : FP} : H p = some (.ins (He.ga K c) dx (ns.zip ws)) → ns.length = ws.length → Rep K S H ws es P1 → Rep K S H vs ds P → ¬ P1 p → ¬ P p → Disj P1 P →
      Rep K S H (.ref p :: vs) (.obj c ns es :: ds) (fun x => x = p ∨ P1 x ∨ P x)
  | sho {p dx : Addr} {c : Str} {ns : List Str} {ws vs : List V} {es ds : List D} {P : FP} : S p = some (.ins (He.ga K c) dx (ns.zip ws)) → ns.length = ws.length → Rep K S H ws es Emp → Rep K S H vs ds P → Rep K S H (.ref p :: vs) (.obj c ns es :: ds) P
abbrev Rp (K : PySem.W.Frag) (S : Sh) (H : Hp) (v : V) (d : D) (P : FP) : Prop := Rep K S H [v] [d] P
section
variable {K : PySem.W.Frag} {S S' : Sh} {H H' : Hp} {vs : List V} {ds : List D} {P Q : FP} {v : V} {d : D}
theorem fp_eq (h : ∀ x, P x ↔ Q x) : P = Q := funext fun x => propext (h x)
theorem Rep.cast (r : Rep K S H vs ds P) (h : ∀ x, P x ↔ Q x) : Rep K S H vs ds Q := fp_eq h ▸ r
theorem Rep.emp (r : Rep K S H vs ds P) (h : ∀ x, ¬ P x) : Rep K S H vs ds Emp := r.cast fun x => ⟨h x, False.elim⟩
/-- what is owned stands in H -/
theorem Rep.inH (r : Rep K S H vs ds P) : ∀ x, P x → ∃ o, H x = some o := by
  induction r with
  | nil => exact fun x h => h.elim
  | non _ ih | bl _ _ ih | int _ _ ih | str _ _ _ ih | gl _ _ ih | ty _ _ ih | adr _ _ ih => exact ih
  | hnd _ _ _ ih => exact ih
  | exo _ _ _ _ _ _ ih => exact ih
  | shl _ _ _ _ ih => exact ih
  | scr _ _ _ _ ih => exact ih
  | sho _ _ _ _ _ ih => exact ih
  | shd _ _ _ _ _ ih => exact ih
  | sht _ _ _ _ _ ih => exact ih
  | owl h _ _ _ _ _ i1 i2 => exact fun x hx => hx.elim (fun e => e ▸ ⟨_, h⟩) fun hx => hx.elim (i1 x) (i2 x)
  | tup _ _ _ _ _ i1 i2 => exact fun x hx => hx.elim (i1 x) (i2 x)
  | dic h _ _ _ _ _ _ i1 i2 => exact fun x hx => hx.elim (fun e => e ▸ ⟨_, h⟩) fun hx => hx.elim (i1 x) (i2 x)
  | dit h _ _ _ _ _ _ i1 i2 => exact fun x hx => hx.elim (fun e => e ▸ ⟨_, h⟩) fun hx => hx.elim (i1 x) (i2 x)
  | obj h _ _ _ _ _ _ i1 i2 => exact fun x hx => hx.elim (fun e => e ▸ ⟨_, h⟩) fun hx => hx.elim (i1 x) (i2 x)
/-- what is owned is no table -/
theorem Rep.ntH (r : Rep K S H vs ds P) : ∀ x o, P x → H x = some o → NT o := by
  have k : ∀ {p : Addr} {u o : HO}, H p = some u → NT u → H p = some o → NT o := fun h n e => by
    rw [h] at e
    cases e
    exact n
  induction r with
  | nil => exact fun x o h => h.elim
  | non _ ih | bl _ _ ih | int _ _ ih | str _ _ _ ih | gl _ _ ih | ty _ _ ih | adr _ _ ih => exact ih
  | hnd _ _ _ ih => exact ih
  | exo _ _ _ _ _ _ ih => exact ih
  | shl _ _ _ _ ih => exact ih
  | scr _ _ _ _ ih => exact ih
  | sho _ _ _ _ _ ih => exact ih
  | shd _ _ _ _ _ ih => exact ih
  | sht _ _ _ _ _ ih => exact ih
  | owl h _ _ _ _ _ i1 i2 => exact fun x o hx e => hx.elim (fun z => k h (fun _ z => nomatch z) (z ▸ e)) fun hx => hx.elim (fun z => i1 x o z e) fun z => i2 x o z e
  | tup _ _ _ _ _ i1 i2 => exact fun x o hx e => hx.elim (fun z => i1 x o z e) fun z => i2 x o z e
  | dic h _ _ _ _ _ _ i1 i2 => exact fun x o hx e => hx.elim (fun z => k h (fun _ z => nomatch z) (z ▸ e)) fun hx => hx.elim (fun z => i1 x o z e) fun z => i2 x o z e
  | dit h _ _ _ _ _ _ i1 i2 => exact fun x o hx e => hx.elim (fun z => k h (fun _ z => nomatch z) (z ▸ e)) fun hx => hx.elim (fun z => i1 x o z e) fun z => i2 x o z e
  | obj h _ _ _ _ _ _ i1 i2 => exact fun x o hx e => hx.elim (fun z => k h (fun _ z => nomatch z) (z ▸ e)) fun hx => hx.elim (fun z => i1 x o z e) fun z => i2 x o z e
/-- all else may change -/
theorem Rep.frame (r : Rep K S H vs ds P) (s : SL S S') (k : ∀ x o, P x → NT o → H x = some o → H' x = some o) : Rep K S' H' vs ds P := by
  induction r with
  | nil => exact .nil
  | non _ ih => exact .non (ih k)
  | bl b _ ih => exact .bl b (ih k)
  | int b _ ih => exact .int b (ih k)
  | str b o _ ih => exact .str b o (ih k)
  | gl b _ ih => exact .gl b (ih k)
  | ty b _ ih => exact .ty b (ih k)
  | adr b _ ih => exact .adr b (ih k)
  | hnd b e _ ih => exact .hnd b (s.mu _ _ e) (ih k)
  | exo a d n e o _ ih => exact .exo a d n (s _ _ e) o (ih k)
  | shl h _ _ i1 i2 => exact .shl (s _ _ h) (i1 fun _ _ z => z.elim) (i2 k)
  | scr h _ _ i1 i2 => exact .scr (s.seq h) (i1 fun _ _ z => z.elim) (i2 k)
  | shd h l _ _ i1 i2 => exact .shd (s.rd h) l (i1 fun _ _ z => z.elim) (i2 k)
  | sht h l _ _ i1 i2 => exact .sht (s _ _ h) l (i1 fun _ _ z => z.elim) (i2 k)
  | sho h l _ _ i1 i2 => exact .sho (s _ _ h) l (i1 fun _ _ z => z.elim) (i2 k)
  | owl h _ _ n1 n2 d i1 i2 => exact .owl (k _ _ (.inl rfl) (fun _ z => nomatch z) h) (i1 fun x o z => k x o (.inr (.inl z))) (i2 fun x o z => k x o (.inr (.inr z))) n1 n2 d
  | tup h _ _ np d i1 i2 => exact .tup (W.Same.seqT s.le h) (i1 fun x o z => k x o (.inl z)) (i2 fun x o z => k x o (.inr z)) np d
  | dic h l _ _ n1 n2 d i1 i2 => exact .dic (k _ _ (.inl rfl) (fun _ z => nomatch z) h) l (i1 fun x o z => k x o (.inr (.inl z))) (i2 fun x o z => k x o (.inr (.inr z))) n1 n2 d
  | dit h l _ _ n1 n2 d i1 i2 => exact .dit (k _ _ (.inl rfl) (fun _ z => nomatch z) h) l (i1 fun x o z => k x o (.inr (.inl z))) (i2 fun x o z => k x o (.inr (.inr z))) n1 n2 d
  | obj h l _ _ n1 n2 d i1 i2 => exact .obj (k _ _ (.inl rfl) (fun _ z => nomatch z) h) l (i1 fun x o z => k x o (.inr (.inl z))) (i2 fun x o z => k x o (.inr (.inr z))) n1 n2 d
theorem Rep.len (r : Rep K S H vs ds P) : vs.length = ds.length := by
  induction r with
  | nil => rfl
  | non _ ih | bl _ _ ih | int _ _ ih | str _ _ _ ih | gl _ _ ih | ty _ _ ih | adr _ _ ih => simp only [List.length_cons, ih]
  | hnd _ _ _ ih => simp only [List.length_cons, ih]
  | exo _ _ _ _ _ _ ih => simp only [List.length_cons, ih]
  | shl _ _ _ _ ih => simp only [List.length_cons, ih]
  | scr _ _ _ _ ih => simp only [List.length_cons, ih]
  | sho _ _ _ _ _ ih => simp only [List.length_cons, ih]
  | shd _ _ _ _ _ ih => simp only [List.length_cons, ih]
  | sht _ _ _ _ _ ih => simp only [List.length_cons, ih]
  | owl _ _ _ _ _ _ _ ih => simp only [List.length_cons, ih]
  | tup _ _ _ _ _ _ ih => simp only [List.length_cons, ih]
  | dic _ _ _ _ _ _ _ _ ih => simp only [List.length_cons, ih]
  | dit _ _ _ _ _ _ _ _ ih => simp only [List.length_cons, ih]
  | obj _ _ _ _ _ _ _ _ ih => simp only [List.length_cons, ih]
/-- a list of data, the first one apart -/
theorem Rep.split (r : Rep K S H vs (d :: ds) P) : ∃ v us P1 P2, vs = v :: us ∧ Rp K S H v d P1 ∧ Rep K S H us ds P2 ∧ Disj P1 P2 ∧ ∀ x, P x ↔ P1 x ∨ P2 x := by
  have em : ∀ {P2 : FP}, Disj Emp P2 := fun _ z => z.elim
  have ee : ∀ {P2 : FP} (x : Addr), P2 x ↔ Emp x ∨ P2 x := fun x => ⟨.inr, fun z => z.elim False.elim id⟩
  cases r with
  | non h => exact ⟨_, _, Emp, _, rfl, .non .nil, h, em, ee⟩
  | bl b h => exact ⟨_, _, Emp, _, rfl, .bl b .nil, h, em, ee⟩
  | int b h => exact ⟨_, _, Emp, _, rfl, .int b .nil, h, em, ee⟩
  | str b o h => exact ⟨_, _, Emp, _, rfl, .str b o .nil, h, em, ee⟩
  | gl b h => exact ⟨_, _, Emp, _, rfl, .gl b .nil, h, em, ee⟩
  | ty b h => exact ⟨_, _, Emp, _, rfl, .ty b .nil, h, em, ee⟩
  | adr b h => exact ⟨_, _, Emp, _, rfl, .adr b .nil, h, em, ee⟩
  | hnd b e h => exact ⟨_, _, Emp, _, rfl, .hnd b e .nil, h, em, ee⟩
  | exo a d n e o h => exact ⟨_, _, Emp, _, rfl, .exo a d n e o .nil, h, em, ee⟩
  | shl a b h => exact ⟨_, _, Emp, _, rfl, .shl a b .nil, h, em, ee⟩
  | scr a b h => exact ⟨_, _, Emp, _, rfl, .scr a b .nil, h, em, ee⟩
  | sho a l b h => exact ⟨_, _, Emp, _, rfl, .sho a l b .nil, h, em, ee⟩
  | shd a l b h => exact ⟨_, _, Emp, _, rfl, .shd a l b .nil, h, em, ee⟩
  | sht a l b h => exact ⟨_, _, Emp, _, rfl, .sht a l b .nil, h, em, ee⟩
  | @owl p ws _ es _ P1 P2 a b h n1 n2 dj =>
    refine ⟨_, _, (fun x => x = p ∨ P1 x ∨ Emp x), P2, rfl, .owl a b .nil n1 id (fun _ _ z => z), h, fun x hx => ?_, fun x => ?_⟩
    · rcases hx with rfl | hx | hx
      · exact n2
      · exact dj x hx
      · exact hx.elim
    · constructor
      · rintro (h | h | h)
        · exact .inl (.inl h)
        · exact .inl (.inr (.inl h))
        · exact .inr h
      · rintro ((h | h | h) | h)
        · exact .inl h
        · exact .inr (.inl h)
        · exact h.elim
        · exact .inr (.inr h)
  | @tup p ws _ es _ P1 P2 a b h np dj =>
    refine ⟨_, _, (fun x => P1 x ∨ Emp x), P2, rfl, .tup a b .nil np (fun _ _ z => z), h, fun x hx => ?_, fun x => ?_⟩
    · rcases hx with hx | hx
      · exact dj x hx
      · exact hx.elim
    · constructor
      · rintro (h | h)
        · exact .inl (.inl h)
        · exact .inr h
      · rintro ((h | h) | h)
        · exact .inl h
        · exact h.elim
        · exact .inr h
  | @dic p ks ws _ es _ P1 P2 a l b h n1 n2 dj =>
    refine ⟨_, _, (fun x => x = p ∨ P1 x ∨ Emp x), P2, rfl, .dic a l b .nil n1 id (fun _ _ z => z), h, fun x hx => ?_, fun x => ?_⟩
    · rcases hx with rfl | hx | hx
      · exact n2
      · exact dj x hx
      · exact hx.elim
    · constructor
      · rintro (h | h | h)
        · exact .inl (.inl h)
        · exact .inl (.inr (.inl h))
        · exact .inr h
      · rintro ((h | h | h) | h)
        · exact .inl h
        · exact .inr (.inl h)
        · exact h.elim
        · exact .inr (.inr h)
  | @dit p ks ws _ es _ P1 P2 a l b h n1 n2 dj =>
    refine ⟨_, _, (fun x => x = p ∨ P1 x ∨ Emp x), P2, rfl, .dit a l b .nil n1 id (fun _ _ z => z), h, fun x hx => ?_, fun x => ?_⟩
    · rcases hx with rfl | hx | hx
      · exact n2
      · exact dj x hx
      · exact hx.elim
    · constructor
      · rintro (h | h | h)
        · exact .inl (.inl h)
        · exact .inl (.inr (.inl h))
        · exact .inr h
      · rintro ((h | h | h) | h)
        · exact .inl h
        · exact .inr (.inl h)
        · exact h.elim
        · exact .inr (.inr h)
  | @obj p dx c ns ws _ es _ P1 P2 a l b h n1 n2 dj =>
    refine ⟨_, _, (fun x => x = p ∨ P1 x ∨ Emp x), P2, rfl, .obj a l b .nil n1 id (fun _ _ z => z), h, fun x hx => ?_, fun x => ?_⟩
    · rcases hx with rfl | hx | hx
      · exact n2
      · exact dj x hx
      · exact hx.elim
    · constructor
      · rintro (h | h | h)
        · exact .inl (.inl h)
        · exact .inl (.inr (.inl h))
        · exact .inr h
      · rintro ((h | h | h) | h)
        · exact .inl h
        · exact .inr (.inl h)
        · exact h.elim
        · exact .inr (.inr h)
/-- put together -/
theorem Rep.join (r : Rp K S H v d P) (t : Rep K S H vs ds Q) (dj : Disj P Q) : Rep K S H (v :: vs) (d :: ds) (fun x => P x ∨ Q x) := by
  have e0 : ∀ {P2 : FP}, (fun x => Emp x ∨ P2 x) = P2 := fp_eq fun x => ⟨fun z => z.elim False.elim id, .inr⟩
  cases r with
  | non h => cases h; rw [e0]; exact .non t
  | bl b h => cases h; rw [e0]; exact .bl b t
  | int b h => cases h; rw [e0]; exact .int b t
  | str b o h => cases h; rw [e0]; exact .str b o t
  | gl b h => cases h; rw [e0]; exact .gl b t
  | ty b h => cases h; rw [e0]; exact .ty b t
  | adr b h => cases h; rw [e0]; exact .adr b t
  | hnd b e h => cases h; rw [e0]; exact .hnd b e t
  | exo a d n e o h => cases h; rw [e0]; exact .exo a d n e o t
  | shl a b h => cases h; rw [e0]; exact .shl a b t
  | scr a b h => cases h; rw [e0]; exact .scr a b t
  | sho a l b h => cases h; rw [e0]; exact .sho a l b t
  | shd a l b h => cases h; rw [e0]; exact .shd a l b t
  | sht a l b h => cases h; rw [e0]; exact .sht a l b t
  | @owl p ws _ es _ P1 _ a b h n1 n2 d1 =>
    cases h
    refine (Rep.owl a b t n1 (dj p (.inl rfl)) fun x hx => dj x (.inr (.inl hx))).cast fun x => ⟨?_, ?_⟩
    · rintro (h | h | h)
      · exact .inl (.inl h)
      · exact .inl (.inr (.inl h))
      · exact .inr h
    · rintro ((h | h | h) | h)
      · exact .inl h
      · exact .inr (.inl h)
      · exact h.elim
      · exact .inr (.inr h)
  | @tup p ws _ es _ P1 _ a b h np d1 =>
    cases h
    refine (Rep.tup a b t np fun x hx => dj x (.inl hx)).cast fun x => ⟨?_, ?_⟩
    · rintro (h | h)
      · exact .inl (.inl h)
      · exact .inr h
    · rintro ((h | h) | h)
      · exact .inl h
      · exact h.elim
      · exact .inr h
  | @dic p ks ws _ es _ P1 _ a l b h n1 n2 d1 =>
    cases h
    refine (Rep.dic a l b t n1 (dj p (.inl rfl)) fun x hx => dj x (.inr (.inl hx))).cast fun x => ⟨?_, ?_⟩
    · rintro (h | h | h)
      · exact .inl (.inl h)
      · exact .inl (.inr (.inl h))
      · exact .inr h
    · rintro ((h | h | h) | h)
      · exact .inl h
      · exact .inr (.inl h)
      · exact h.elim
      · exact .inr (.inr h)
  | @dit p ks ws _ es _ P1 _ a l b h n1 n2 d1 =>
    cases h
    refine (Rep.dit a l b t n1 (dj p (.inl rfl)) fun x hx => dj x (.inr (.inl hx))).cast fun x => ⟨?_, ?_⟩
    · rintro (h | h | h)
      · exact .inl (.inl h)
      · exact .inl (.inr (.inl h))
      · exact .inr h
    · rintro ((h | h | h) | h)
      · exact .inl h
      · exact .inr (.inl h)
      · exact h.elim
      · exact .inr (.inr h)
  | @obj p dx c ns ws _ es _ P1 _ a l b h n1 n2 d1 =>
    cases h
    refine (Rep.obj a l b t n1 (dj p (.inl rfl)) fun x hx => dj x (.inr (.inl hx))).cast fun x => ⟨?_, ?_⟩
    · rintro (h | h | h)
      · exact .inl (.inl h)
      · exact .inl (.inr (.inl h))
      · exact .inr h
    · rintro ((h | h | h) | h)
      · exact .inl h
      · exact .inr (.inl h)
      · exact h.elim
      · exact .inr (.inr h)
theorem Rep.joinE (r : Rp K S H v d Emp) (t : Rep K S H vs ds Emp) : Rep K S H (v :: vs) (d :: ds) Emp := (Rep.join r t fun _ z => z.elim).emp fun x z => z.elim id id
theorem Rep.nilP (r : Rep K S H vs [] P) : vs = [] ∧ P = Emp := by cases r; exact ⟨rfl, rfl⟩
/-- the same of a list of data in pieces -/
theorem Rep.splitE (r : Rep K S H vs (d :: ds) Emp) : ∃ v us, vs = v :: us ∧ Rp K S H v d Emp ∧ Rep K S H us ds Emp := by
  obtain ⟨v, us, P1, P2, e, r1, r2, _, h⟩ := r.split
  exact ⟨v, us, e, r1.emp fun x z => (h x).mpr (.inl z), r2.emp fun x z => (h x).mpr (.inr z)⟩
theorem Rep.appE : ∀ {ds : List D} {vs ws : List V} {es : List D}, Rep K S H vs ds Emp → Rep K S H ws es Emp → Rep K S H (vs ++ ws) (ds ++ es) Emp
  | [], vs, ws, es, a, b => by
    obtain ⟨rfl, _⟩ := a.nilP
    exact b
  | d :: ds, vs, ws, es, a, b => by
    obtain ⟨v, us, rfl, h1, h2⟩ := a.splitE
    exact h1.joinE (Rep.appE h2 b)
theorem Rep.getE : ∀ {ds : List D} {vs : List V} {i : Nat} {d : D}, Rep K S H vs ds Emp → ds[i]? = some d → ∃ v, vs[i]? = some v ∧ Rp K S H v d Emp
  | [], _, _, _, _, e => by simp at e
  | d :: ds, vs, 0, x, a, e => by
    obtain ⟨v, us, rfl, h1, h2⟩ := a.splitE
    simp at e; subst e
    exact ⟨v, rfl, h1⟩
  | d :: ds, vs, i + 1, x, a, e => by
    obtain ⟨v, us, rfl, h1, h2⟩ := a.splitE
    simp at e
    obtain ⟨w, e2, r⟩ := Rep.getE h2 e
    exact ⟨w, by simpa using e2, r⟩
theorem Rep.ofGetE : ∀ {ds : List D} {vs : List V}, vs.length = ds.length → (∀ (i : Nat) d v, ds[i]? = some d → vs[i]? = some v → Rp K S H v d Emp) → Rep K S H vs ds Emp
  | [], [], _, _ => .nil
  | d :: ds, v :: vs, l, h => (h 0 d v rfl rfl).joinE (Rep.ofGetE (by simpa using l) fun i d v e1 e2 => h (i + 1) d v (by simpa using e1) (by simpa using e2))
/-! what a value is, by its data -/
theorem Rp.int {i : Int} (r : Rp K S H v (.int i) P) : v = .int i ∧ P = Emp := by cases r; rename_i h; cases h; exact ⟨rfl, rfl⟩
theorem Rp.bl {i : Bool} (r : Rp K S H v (.bl i) P) : v = .bl i ∧ P = Emp := by cases r; rename_i h; cases h; exact ⟨rfl, rfl⟩
theorem Rp.str {i : Str} (r : Rp K S H v (.str i) P) : v = .str i ∧ P = Emp ∧ sOk i = true := by cases r; rename_i o h; cases h; exact ⟨rfl, rfl, o⟩
theorem Rp.non (r : Rp K S H v .non P) : v = .non ∧ P = Emp := by cases r; rename_i h; cases h; exact ⟨rfl, rfl⟩
theorem Rp.tup {es : List D} (r : Rp K S H v (.tup es) P) : ∃ p ws, v = .ref p ∧ SqT K S p ws ∧ Rep K S H ws es P ∧ ¬ P p := by
  cases r with
  | tup a b h np d =>
    cases h
    exact ⟨_, _, rfl, a, b.cast fun x => ⟨.inl, fun z => z.elim id False.elim⟩, fun z => z.elim np id⟩
theorem same_sql {p : Addr} {ws : List V} (s : Same S H) (h : SqL K S p ws) : SqL K H p ws := s.seq h
theorem Rp.lst {es : List D} (s : Same S H) (r : Rp K S H v (.lst es) P) : ∃ p ws P1, v = .ref p ∧ H p = some (.lst ws) ∧ Rep K S H ws es P1 ∧ (∀ x, P1 x → P x) ∧ (S p = some (.lst ws) ∧ P1 = Emp ∨ P p ∧ ¬ P1 p ∧ ∀ x, P x ↔ x = p ∨ P1 x) := by
  cases r with
  | shl a b h => cases h; exact ⟨_, _, _, rfl, s _ _ a, b, fun _ z => z.elim, .inl ⟨a, rfl⟩⟩
  | @owl p ws _ _ _ P1 _ a b h n1 n2 d => cases h; exact ⟨_, _, _, rfl, a, b, fun _ z => .inr (.inl z), .inr ⟨.inl rfl, n1, fun x => ⟨fun z => z.elim .inl fun z => z.elim .inr False.elim, fun z => z.elim .inl fun z => .inr (.inl z)⟩⟩⟩
theorem Rp.scr {es : List D} (r : Rp K S H v (.scr es) P) : ∃ p ws, v = .ref p ∧ SqL K S p ws ∧ Rep K S H ws es Emp := by
  cases r with
  | scr a b h => exact ⟨_, _, rfl, a, b⟩
theorem Rp.obj {c : Str} {ns : List Str} {es : List D} (s : Same S H) (r : Rp K S H v (.obj c ns es) P) : ∃ p dx ws P1, v = .ref p ∧ H p = some (.ins (He.ga K c) dx (ns.zip ws)) ∧ ns.length = ws.length ∧ Rep K S H ws es P1 ∧ (∀ x, P1 x → P x) := by
  cases r with
  | sho a l b h => cases h; exact ⟨_, _, _, _, rfl, s _ _ a, l, b, fun _ z => z.elim⟩
  | @obj p dx _ _ ws _ _ _ P1 _ a l b h n1 n2 d => cases h; exact ⟨_, _, _, _, rfl, a, l, b, fun _ z => .inr (.inl z)⟩
theorem Rp.dic {ks : List Ky} {es : List D} (s : Same S H) (r : Rp K S H v (.dic ks es) P) : ∃ p ws P1, v = .ref p ∧ Rd H p (.dK (ks.zip ws)) ∧ KL ks ws ∧ Rep K S H ws es P1 ∧ (∀ x, P1 x → P x) ∧ (Rd S.h p (.dK (ks.zip ws)) ∧ P1 = Emp ∨ P p ∧ ¬ P1 p ∧ ∀ x, P x ↔ x = p ∨ P1 x) := by
  cases r with
  | shd a l b h => cases h; exact ⟨_, _, _, rfl, rdLe s a, l, b, fun _ z => z.elim, .inl ⟨a, rfl⟩⟩
  | @dic p _ ws _ _ _ P1 _ a l b h n1 n2 d => cases h; exact ⟨_, _, _, rfl, .inl a, l, b, fun _ z => .inr (.inl z), .inr ⟨.inl rfl, n1, fun x => ⟨fun z => z.elim .inl fun z => z.elim .inr False.elim, fun z => z.elim .inl fun z => .inr (.inl z)⟩⟩⟩
/-- a dict lent: what it holds is shared -/
theorem Rp.dicF {ks : List Ky} {es : List D} (s : Same S H) (r : Rp K S H v (.dic ks es) P) (f : P = Emp ∨ ∃ p, v = .ref p ∧ P = fun x => x = p) : ∃ p ws, v = .ref p ∧ Rd H p (.dK (ks.zip ws)) ∧ KL ks ws ∧ Rep K S H ws es Emp := by
  obtain ⟨p, ws, P1, rfl, h, l, r1, k, z | ⟨hp, n1, e⟩⟩ := Rp.dic s r
  · exact ⟨p, ws, rfl, h, l, z.2 ▸ r1⟩
  · rcases f with rfl | ⟨q, e1, rfl⟩
    · exact hp.elim
    · cases e1
      refine ⟨p, ws, rfl, h, l, r1.emp fun x z => ?_⟩
      have e2 : x = p := (e x).mpr (.inr z)
      exact n1 (e2 ▸ z)
/-- a name's own dict -/
theorem Rp.dicW {p : Addr} {ks : List Ky} {es : List D} (r : Rp K S H (.ref p) (.dic ks es) (fun x => x = p)) : ∃ ws, H p = some (.dK (ks.zip ws)) ∧ KL ks ws ∧ Rep K S H ws es Emp := by
  generalize hP : (fun x => x = p) = P at r
  cases r with
  | shd a l b h =>
    cases h
    exact ((congrFun hP p).mp rfl).elim
  | @dic p _ ws _ _ _ P1 _ a l b h n1 n2 d =>
    cases h
    refine ⟨ws, a, l, b.emp fun x z => ?_⟩
    have e : x = p := (congrFun hP x).mpr (.inr (.inl z))
    exact n1 (e ▸ z)
end
end M

namespace M
open Enc (enc)
open PySem PySem.Spec PyProof.Rows L2 W
/-! ### the state: what is shared, what the frame owns -/
structure TL where
  tabs : List (Addr × Str)
  w : Bool
/-- without a world -/
abbrev TL.pure (τ : TL) : TL := ⟨τ.tabs, false⟩
/-- S lies in H, no table is shared, the tables stand -/
structure Sub (τ : TL) (S : Sh) (H : Hp) : Prop where
  le : Same S H
  nt : ∀ x ps, S x ≠ some (.tbl ps)
  tb : LamX.Tabs τ.tabs H
instance {τ : TL} {S : Sh} {H : Hp} : CoeFun (Sub τ S H) (fun _ => ∀ x o, S x = some o → H x = some o) := ⟨fun s => s.le⟩
instance {τ : TL} {S : Sh} {H : Hp} : CoeOut (Sub τ S H) (Same S H) := ⟨fun s => s.le⟩
/-- all but the tables stays -/
structure SameN (H H' : Hp) : Prop where
  at_ : ∀ x o, NT o → H x = some o → H' x = some o
  free : ∀ {x}, H' x = none → H x = none
theorem SameN.refl (H : Hp) : SameN H H := ⟨fun _ _ _ e => e, id⟩
theorem SameN.trans {H H1 H2 : Hp} (a : SameN H H1) (b : SameN H1 H2) : SameN H H2 := ⟨fun x o n e => b.at_ x o n (a.at_ x o n e), fun e => a.free (b.free e)⟩
theorem SameN.of {H H' : Hp} (s : Same H H') : SameN H H' := ⟨fun x o _ e => s x o e, fun e => Same.free s e⟩
theorem SameN.lst {H H' : Hp} {p : Addr} {ws : List V} (s : SameN H H') (e : H p = some (.lst ws)) : H' p = some (.lst ws) := s.at_ _ _ (fun _ z => nomatch z) e
theorem Sub.free {τ : TL} {S : Sh} {H : Hp} {x : Addr} (s : Sub τ S H) (e : H x = none) : S x = none := Same.free s.le e
theorem Sub.seq {τ : TL} {S : Sh} {H : Hp} {K : PySem.W.Frag} {p : Addr} {ws : List V} (s : Sub τ S H) (e : SqL K S p ws) : SqL K H p ws := Same.seq s.le e
theorem Sub.sameN {τ : TL} {S : Sh} {H H' : Hp} (s : Sub τ S H) (h : SameN H H') (t : LamX.Tabs τ.tabs H') : Sub τ S H' := ⟨fun x o e => h.at_ x o (fun ps z => s.nt x ps (z ▸ e)) (s x o e), s.nt, t⟩
theorem Sub.same {τ : TL} {S : Sh} {H H' : Hp} (s : Sub τ S H) (e : Same H H') : Sub τ S H' := ⟨s.le.trans e, s.nt, s.tb.ext e⟩
/-- an object that is no table and no code is written: the tables stand -/
structure DO (o : HO) : Prop where
  nt : NT o
  ne : ∀ f, o ≠ .ext f
theorem tabs_upd {τ : TL} {H : Hp} {p : Addr} {o u : HO} (t : LamX.Tabs τ.tabs H) (h : H p = some o) (d : DO o) : LamX.Tabs τ.tabs (upd H p u) := fun q hq => by
  obtain ⟨ps, h1, h2, h3⟩ := t q hq
  have ne : q.1 ≠ p := fun e => by
    rw [e, h] at h1
    exact d.nt ps (Option.some.inj h1)
  refine ⟨ps, by rw [upd_ne ne]; exact h1, h2, fun pos cv hc => ?_⟩
  obtain ⟨c, e1, e2⟩ := h3 pos cv hc
  have ne2 : c ≠ p := fun e => by
    rw [e, h] at e2
    exact d.ne _ (Option.some.inj e2)
  exact ⟨c, e1, by rw [upd_ne ne2]; exact e2⟩
theorem DO.lst {ws : List V} : DO (.lst ws) := ⟨fun _ z => (nomatch z), fun _ z => (nomatch z)⟩
/-- ### the state: what is shared, what the frame owns -/
structure Cfg (τ : TL) (S : Sh) (H : Hp) (P : FP) : Prop where
  sub : Sub τ S H
  sep : ∀ x, P x → S x = none
  inh : ∀ x, P x → ∃ o, H x = some o
theorem Sub.re {τ τ' : TL} {S : Sh} {H : Hp} (s : Sub τ S H) (e : τ'.tabs = τ.tabs := by rfl) : Sub τ' S H := ⟨s.le, s.nt, by rw [e]; exact s.tb⟩
/-- nothing is written, new things are laid -/
structure Grow (τ : TL) (S : Sh) (H : Hp) (S' : Sh) (H' : Hp) : Prop where
  s : SL S S'
  mu : S'.mu = S.mu
  h : SameN H H'
  sub : Sub τ S' H'
  new : ∀ x o, S' x = some o → (∃ u, S x = some u) ∨ H x = none
section
variable {τ : TL} {K : PySem.W.Frag} {S S' S2 : Sh} {H H' H2 : Hp} {vs : List V} {ds : List D} {P P1 Q : FP} {v : V} {d : D}
theorem Grow.refl (h : Sub τ S H) : Grow τ S H S H := ⟨SL.refl S, rfl, .refl H, h, fun _ o e => .inl ⟨o, e⟩⟩
theorem Grow.re {τ' : TL} (g : Grow τ S H S' H') (e : τ'.tabs = τ.tabs := by rfl) : Grow τ' S H S' H' := ⟨g.s, g.mu, g.h, g.sub.re e, g.new⟩
theorem Grow.trans (a : Grow τ S H S' H') (b : Grow τ S' H' S2 H2) : Grow τ S H S2 H2 := by
  refine ⟨a.s.trans b.s, b.mu.trans a.mu, a.h.trans b.h, b.sub, fun x o e => ?_⟩
  rcases b.new x o e with ⟨u, e1⟩ | e1
  · exact a.new x u e1
  · exact .inr (a.h.free e1)
theorem Cfg.grow (c : Cfg τ S H P) (g : Grow τ S H S' H') : Cfg τ S' H' P := by
  refine ⟨g.sub, fun x hx => ?_, fun x hx => ?_⟩
  · cases q : S' x with
    | none => rfl
    | some o =>
      rcases g.new x o q with ⟨u, e⟩ | e
      · rw [c.sep x hx] at e
        cases e
      · obtain ⟨u, e2⟩ := c.inh x hx
        rw [e] at e2
        cases e2
  · cases q : H' x with
    | some o => exact ⟨o, rfl⟩
    | none =>
      obtain ⟨u, e2⟩ := c.inh x hx
      rw [g.h.free q] at e2
      cases e2
theorem Cfg.mono (c : Cfg τ S H P) (h : ∀ x, Q x → P x) : Cfg τ S H Q := ⟨c.sub, fun x hx => c.sep x (h x hx), fun x hx => c.inh x (h x hx)⟩
theorem Rep.grow (r : Rep K S H vs ds P) (g : Grow τ S H S' H') : Rep K S' H' vs ds P := r.frame g.s fun x o _ n e => g.h.at_ x o n e
theorem Sub.lay {p : Addr} {o : HO} (h : Sub τ S H) (n : H p = none) (hn : NT o) : Sub τ (S.upd p o) (upd H p o) := by
  refine ⟨fun x u e => ?_, fun x ps e => ?_, h.tb.ext (same_new n)⟩
  · replace e : L2.upd S.h p o x = _ := e
    by_cases hx : x = p
    · subst hx; rw [upd_same] at e ⊢; exact e
    · rw [upd_ne hx] at e ⊢; exact h _ _ e
  · replace e : L2.upd S.h p o x = _ := e
    by_cases hx : x = p
    · subst hx; rw [upd_same] at e; cases e; exact hn _ rfl
    · rw [upd_ne hx] at e; exact h.nt _ _ e
/-- a new shared object is laid -/
theorem Grow.lay {p : Addr} {o : HO} (h : Sub τ S H) (n : H p = none) (hn : NT o := by exact fun _ z => nomatch z) : Grow τ S H (S.upd p o) (upd H p o) := by
  have ns : S p = none := h.free n
  refine ⟨⟨same_new ns, fun _ _ e => e⟩, rfl, .of (same_new n), h.lay n hn, fun x u e => ?_⟩
  replace e : L2.upd S.h p o x = _ := e
  by_cases hx : x = p
  · exact .inr (hx ▸ n)
  · rw [upd_ne hx] at e; exact .inl ⟨u, e⟩
/-- a new object is laid that is not shared -/
theorem Grow.own {p : Addr} {o : HO} (h : Sub τ S H) (n : H p = none) : Grow τ S H S (upd H p o) := ⟨SL.refl S, rfl, .of (same_new n), h.same (same_new n), fun _ o e => .inl ⟨o, e⟩⟩
/-- data without dicts: what may be shared -/
inductive ND : List D → Prop
  | nil : ND []
  | non {ds : List D} : ND ds → ND (.non :: ds)
  | bl {b : Bool} {ds : List D} : ND ds → ND (.bl b :: ds)
  | int {i : Int} {ds : List D} : ND ds → ND (.int i :: ds)
  | str {s : Str} {ds : List D} : ND ds → ND (.str s :: ds)
  | gl {x : Str} {ds : List D} : ND ds → ND (.gl x :: ds)
  | ty {n : String} {ds : List D} : ND ds → ND (.ty n :: ds)
  | hnd {i : Nat} {ds : List D} : ND ds → ND (.hnd i :: ds)
  | exo {a d : Addr} {n : Str} {ds : List D} : ND ds → ND (.exo a d n :: ds)
  | adr {a : Addr} {ds : List D} : ND ds → ND (.adr a :: ds)
  | scr {es ds : List D} : ND es → ND ds → ND (.scr es :: ds)
  | lst {es ds : List D} : ND es → ND ds → ND (.lst es :: ds)
  | tup {es ds : List D} : ND es → ND ds → ND (.tup es :: ds)
  | obj {c : Str} {ns : List Str} {es ds : List D} : ND es → ND ds → ND (.obj c ns es :: ds)
  | dic {ks : List Ky} {es ds : List D} : ND es → ND ds → ND (.dic ks es :: ds)
  | dit {ks : List (List Ky)} {es ds : List D} : ND es → ND ds → ND (.dit ks es :: ds)
open Classical in
/-- what is owned is shared from now on -/
noncomputable def frz (S : Sh) (H : Hp) (P : FP) : Sh := ⟨fun x => if P x then H x else S x, S.mu⟩
theorem frz_in {x : Addr} (h : P x) : frz S H P x = H x := if_pos h
theorem frz_out {x : Addr} (h : ¬ P x) : frz S H P x = S x := if_neg h
theorem frz_same (h : Same S H) : SL S (frz S H P) := ⟨fun x o e => by
  by_cases hx : P x
  · rw [frz_in hx]; exact h _ _ e
  · rw [frz_out hx]; exact e, fun _ _ e => e⟩
theorem frz_sub0 (h : Same S H) : Same (frz S H P) H := fun x o e => by
  by_cases hx : P x
  · rw [frz_in hx] at e; exact e
  · rw [frz_out hx] at e; exact h _ _ e
theorem frz_sub (h : Sub τ S H) (n : ∀ x o, P x → H x = some o → NT o) : Sub τ (frz S H P) H := ⟨frz_sub0 h.le, fun x ps e => by
  by_cases hx : P x
  · rw [frz_in hx] at e; exact n x _ hx e ps rfl
  · rw [frz_out hx] at e; exact h.nt _ _ e, h.tb⟩
theorem Rep.freeze (sub : Same S H) (r : Rep K S H vs ds P) : ND ds → ∀ {S2 : Sh}, SL S S2 → Same S2 H → (∀ x o, P x → H x = some o → S2 x = some o) → Rep K S2 H vs ds Emp := by
  induction r with
  | nil => intro _ S2 _ _ _; exact .nil
  | non _ ih => intro n S2 a b c; cases n with | non n => exact .non (ih n a b c)
  | bl x _ ih => intro n S2 a b c; cases n with | bl n => exact .bl x (ih n a b c)
  | int x _ ih => intro n S2 a b c; cases n with | int n => exact .int x (ih n a b c)
  | str x o _ ih => intro n S2 a b c; cases n with | str n => exact .str x o (ih n a b c)
  | gl x _ ih => intro n S2 a b c; cases n with | gl n => exact .gl x (ih n a b c)
  | ty x _ ih => intro n S2 a b c; cases n with | ty n => exact .ty x (ih n a b c)
  | adr x _ ih => intro n S2 a b c; cases n with | adr n => exact .adr x (ih n a b c)
  | hnd x e _ ih => intro n S2 a b c; cases n with | hnd n => exact .hnd x (a.mu _ _ e) (ih n a b c)
  | exo x y z e o _ ih => intro n S2 a b c; cases n with | exo n => exact .exo x y z (a _ _ e) o (ih n a b c)
  | scr h _ _ i1 i2 => intro n S2 a b c; cases n with | scr n1 n2 => exact .scr (a.seq h) (i1 n1 a b fun _ _ z => z.elim) (i2 n2 a b c)
  | shl h _ _ i1 i2 => intro n S2 a b c; cases n with | lst n1 n2 => exact .shl (a _ _ h) (i1 n1 a b fun _ _ z => z.elim) (i2 n2 a b c)
  | sho h l _ _ i1 i2 => intro n S2 a b c; cases n with | obj n1 n2 => exact .sho (a _ _ h) l (i1 n1 a b fun _ _ z => z.elim) (i2 n2 a b c)
  | owl h _ _ _ _ _ i1 i2 => intro n S2 a b c; cases n with | lst n1 n2 => exact .shl (c _ _ (.inl rfl) h) (i1 n1 a b fun x o z => c x o (.inr (.inl z))) (i2 n2 a b fun x o z => c x o (.inr (.inr z)))
  | tup h _ _ _ _ i1 i2 => intro n S2 a b c; cases n with | tup n1 n2 => exact (Rep.tup (W.Same.seqT a.le h) (i1 n1 a b fun x o z => c x o (.inl z)) (i2 n2 a b fun x o z => c x o (.inr z)) id fun _ z => z.elim).emp fun x z => z.elim id id
  | dic h l _ _ _ _ _ i1 i2 => intro n S2 a b c; cases n with | dic n1 n2 => exact .shd (.inl (c _ _ (.inl rfl) h)) l (i1 n1 a b fun x o z => c x o (.inr (.inl z))) (i2 n2 a b fun x o z => c x o (.inr (.inr z)))
  | dit h l _ _ _ _ _ i1 i2 => intro n S2 a b c; cases n with | dit n1 n2 => exact .sht (c _ _ (.inl rfl) h) l (i1 n1 a b fun x o z => c x o (.inr (.inl z))) (i2 n2 a b fun x o z => c x o (.inr (.inr z)))
  | shd h l _ _ i1 i2 => intro n S2 a b c; cases n with | dic n1 n2 => exact .shd (a.rd h) l (i1 n1 a b fun _ _ z => z.elim) (i2 n2 a b c)
  | sht h l _ _ i1 i2 => intro n S2 a b c; cases n with | dit n1 n2 => exact .sht (a _ _ h) l (i1 n1 a b fun _ _ z => z.elim) (i2 n2 a b c)
  | obj h l _ _ _ _ _ i1 i2 => intro n S2 a b c; cases n with | obj n1 n2 => exact .sho (c _ _ (.inl rfl) h) l (i1 n1 a b fun x o z => c x o (.inr (.inl z))) (i2 n2 a b fun x o z => c x o (.inr (.inr z)))
end
theorem nd_all : ∀ ds : List D, ND ds
  | [] => .nil
  | .non :: ds => .non (nd_all ds)
  | .bl _ :: ds => .bl (nd_all ds)
  | .int _ :: ds => .int (nd_all ds)
  | .str _ :: ds => .str (nd_all ds)
  | .gl _ :: ds => .gl (nd_all ds)
  | .ty _ :: ds => .ty (nd_all ds)
  | .hnd _ :: ds => .hnd (nd_all ds)
  | .adr _ :: ds => .adr (nd_all ds)
  | .exo _ _ _ :: ds => .exo (nd_all ds)
  | .lst es :: ds => .lst (nd_all es) (nd_all ds)
  | .scr es :: ds => .scr (nd_all es) (nd_all ds)
  | .tup es :: ds => .tup (nd_all es) (nd_all ds)
  | .dic _ es :: ds => .dic (nd_all es) (nd_all ds)
  | .dit _ es :: ds => .dit (nd_all es) (nd_all ds)
  | .obj _ _ es :: ds => .obj (nd_all es) (nd_all ds)
termination_by ds => sizeOf ds
/-- an encoding whose data may be shared -/
class Frz {α : Type} (en : α → D) : Prop where
  nd : ∀ a, ND [en a]
theorem nd_join {d : D} {ds : List D} (a : ND [d]) (b : ND ds) : ND (d :: ds) := by
  cases a with
  | non _ => exact .non b
  | bl _ => exact .bl b
  | int _ => exact .int b
  | str _ => exact .str b
  | gl _ => exact .gl b
  | ty _ => exact .ty b
  | hnd _ => exact .hnd b
  | adr _ => exact .adr b
  | exo _ => exact .exo b
  | lst x _ => exact .lst x b
  | scr x _ => exact .scr x b
  | tup x _ => exact .tup x b
  | obj x _ => exact .obj x b
  | dic x _ => exact .dic x b
  | dit x _ => exact .dit x b
theorem nd_map {α : Type} {en : α → D} [f : Frz en] : ∀ xs : List α, ND (xs.map en)
  | [] => .nil
  | x :: xs => nd_join (f.nd x) (nd_map xs)
abbrev FE (α : Type) [Enc α] : Prop := Frz (enc : α → D)
instance : FE Int := ⟨fun _ => .int .nil⟩
instance : FE Bool := ⟨fun _ => .bl .nil⟩
instance : FE Str := ⟨fun _ => .str .nil⟩
instance : FE Unit := ⟨fun _ => .non .nil⟩
instance {α : Type} [Enc α] [f : FE α] : FE (Option α) := ⟨fun x => match x with | none => .non .nil | some a => f.nd a⟩
instance {α : Type} [Enc α] [f : FE α] : FE (List α) := ⟨fun xs => .lst (nd_map xs) .nil⟩
instance {α β : Type} [Enc α] [Enc β] [f : FE α] [g : FE β] : FE (T2 α β) := ⟨fun x => .tup (nd_join (f.nd _) (g.nd _)) .nil⟩
instance {α β γ : Type} [Enc α] [Enc β] [Enc γ] [f : FE α] [g : FE β] [h : FE γ] : FE (T3 α β γ) := ⟨fun x => .tup (nd_join (f.nd _) (nd_join (g.nd _) (h.nd _))) .nil⟩
instance {α β γ δ : Type} [Enc α] [Enc β] [Enc γ] [Enc δ] [f : FE α] [g : FE β] [h : FE γ] [k : FE δ] : FE (T4 α β γ δ) := ⟨fun x => .tup (nd_join (f.nd _) (nd_join (g.nd _) (nd_join (h.nd _) (k.nd _)))) .nil⟩
instance : FE Scr := ⟨fun x => .scr (nd_map x.ns) .nil⟩
instance {κ α : Type} [KyC κ] [Enc α] [f : FE α] : FE (Dct κ α) := ⟨fun d => .dic (by have h := nd_map (en := (Enc.enc : α → D)) (d.kvs.map fun kv => kv.2); rw [List.map_map] at h; exact h) .nil⟩
/-- what is owned is the thing itself: what it holds is shared -/
theorem Rp.lstF {K : PySem.W.Frag} {S : Sh} {H : Hp} {v : V} {es : List D} {P : FP} (s : Same S H) (r : Rp K S H v (.lst es) P) (f : P = Emp ∨ ∃ p, v = .ref p ∧ P = fun x => x = p) : ∃ p ws, v = .ref p ∧ H p = some (.lst ws) ∧ Rep K S H ws es Emp := by
  obtain ⟨p, ws, P1, rfl, h, r1, k, _ | ⟨hp, n1, e⟩⟩ := Rp.lst s r
  · rename_i z
    exact ⟨p, ws, rfl, h, z.2 ▸ r1⟩
  · rcases f with rfl | ⟨q, e1, rfl⟩
    · exact hp.elim
    · cases e1
      refine ⟨p, ws, rfl, h, r1.emp fun x z => ?_⟩
      have e2 : x = p := (e x).mpr (.inr z)
      exact n1 (e2 ▸ z)
/-! ### the slots -/
/-- sh: shared; ow: the object itself is owned, what it holds is shared; tr: a tree, owned down to any depth -/
inductive Md where
  | sh | ow | tr
/-- nothing owned but the object itself -/
def Fl (v : V) (P : FP) : Prop := P = Emp ∨ ∃ p, v = .ref p ∧ P = fun x => x = p
def Md.ok : Md → V → FP → Prop
  | .sh, _, P => P = Emp
  | .tr, _, _ => True
  | .ow, v, P => ∃ p, v = .ref p ∧ P = fun x => x = p
def Md.flat : Md → Bool
  | .tr => false
  | _ => true
theorem Md.fl {m : Md} {v : V} {P : FP} (h : m.ok v P) (f : m.flat = true) : Fl v P := by
  cases m with
  | sh => exact .inl h
  | ow => exact .inr h
  | tr => cases f
inductive Lay : Type → Type 1 where
  | nil (τ : TL) : Lay Unit
  | wld {ω : Type} (τ : TL) (en : ω → D) : Lay (List ω)
  | rwd {ω : Type} (τ : TL) (en : ω → D) : Lay (List ω)
  | cons {α T : Type} (i : Nat) (m : Md) (en : α → D) (l : Lay T) : Lay (Option α × T)
/-- of what is shared, the tuples alone -/
def Sh.tup (S : Sh) : Sh := ⟨fun x => match S.h x with
  | some (.tup ws) => some (.tup ws)
  | some (.frz o (.tup ws)) => some (.frz o (.tup ws))
  | _ => none, S.mu⟩
theorem Sh.tup_eq {S : Sh} {x : Addr} {o : HO} (e : S.tup x = some o) : S x = some o ∧ ((∃ ws, o = .tup ws) ∨ ∃ b ws, o = .frz b (.tup ws)) := by
  unfold Sh.tup at e
  dsimp only at e
  split at e
  · rename_i ws h
    cases e
    exact ⟨h, .inl ⟨_, rfl⟩⟩
  · rename_i b ws h
    cases e
    exact ⟨h, .inr ⟨_, _, rfl⟩⟩
  · cases e
theorem Sh.tup_of {S : Sh} {x : Addr} {ws : List V} (e : S x = some (.tup ws)) : S.tup x = some (.tup ws) := by
  unfold Sh.tup
  dsimp only
  rw [e]
theorem Sh.tup_of2 {S : Sh} {x : Addr} {b : Obj} {ws : List V} (e : S x = some (.frz b (.tup ws))) : S.tup x = some (.frz b (.tup ws)) := by
  unfold Sh.tup
  dsimp only
  rw [e]
theorem SL.tupL (S : Sh) : SL S.tup S := ⟨fun x o e => (Sh.tup_eq e).1, fun _ _ e => e⟩
theorem SL.tup {S S' : Sh} (s : SL S S') : SL S.tup S'.tup := ⟨fun x o e => by
  obtain ⟨h, ⟨ws, rfl⟩ | ⟨b, ws, rfl⟩⟩ := Sh.tup_eq e
  · exact Sh.tup_of (s _ _ h)
  · exact Sh.tup_of2 (s _ _ h), s.mu⟩
theorem Sh.tup_sq {K : PySem.W.Frag} {S : Sh} {p : Addr} {ws : List V} (h : SqT K S p ws) : SqT K S.tup p ws := by
  rcases h with (h | ⟨o, h⟩) | h
  · exact .inl (.inl (Sh.tup_of h))
  · exact .inl (.inr ⟨o, Sh.tup_of2 h⟩)
  · exact .inr h
/-- the things of the world: each owned, at its place, and all that it holds but tuples -/
structure WOk {ω : Type} (K : PySem.W.Frag) (S : Sh) (H : Hp) (en : ω → D) (w : List ω) (P : FP) : Prop where
  ex : ∃ Ps : Nat → FP, (∀ i o, w[i]? = some o → ∃ a, S.mu i = some a ∧ Rp K S.tup H (.ref a) (en o) (Ps i) ∧ Ps i a) ∧ (∀ i, w.length ≤ i → S.mu i = none ∧ ∀ x, ¬ Ps i x) ∧ (∀ i j, i ≠ j → Disj (Ps i) (Ps j)) ∧ ∀ x, P x ↔ ∃ i, Ps i x
theorem WOk.inH {ω : Type} {K : PySem.W.Frag} {S : Sh} {H : Hp} {en : ω → D} {w : List ω} {P : FP} (h : WOk K S H en w P) : ∀ x, P x → ∃ o, H x = some o := fun x hx => by
  obtain ⟨Ps, h1, h2, _, h4⟩ := h.ex
  obtain ⟨i, hi⟩ := (h4 x).mp hx
  by_cases hl : i < w.length
  · obtain ⟨a, _, r, _⟩ := h1 i _ (List.getElem?_eq_getElem hl)
    exact r.inH x hi
  · exact absurd hi ((h2 i (by omega)).2 x)
theorem WOk.ntH {ω : Type} {K : PySem.W.Frag} {S : Sh} {H : Hp} {en : ω → D} {w : List ω} {P : FP} (h : WOk K S H en w P) : ∀ x o, P x → H x = some o → NT o := fun x o hx e => by
  obtain ⟨Ps, h1, h2, _, h4⟩ := h.ex
  obtain ⟨i, hi⟩ := (h4 x).mp hx
  by_cases hl : i < w.length
  · obtain ⟨a, _, r, _⟩ := h1 i _ (List.getElem?_eq_getElem hl)
    exact r.ntH x o hi e
  · exact absurd hi ((h2 i (by omega)).2 x)
theorem WOk.frame {ω : Type} {K : PySem.W.Frag} {S S' : Sh} {H H' : Hp} {en : ω → D} {w : List ω} {P : FP} (h : WOk K S H en w P) (s : SL S S') (m : S'.mu = S.mu) (k : ∀ x o, P x → NT o → H x = some o → H' x = some o) : WOk K S' H' en w P := by
  obtain ⟨Ps, h1, h2, h3, h4⟩ := h.ex
  refine ⟨Ps, fun i o e => ?_, fun i hi => by rw [m]; exact h2 i hi, h3, h4⟩
  obtain ⟨a, ha, r, hp⟩ := h1 i o e
  exact ⟨a, s.mu _ _ ha, r.frame s.tup fun x o hx => k x o ((h4 x).mpr ⟨i, hx⟩), hp⟩
/-- the things of the world, as they are lent: read, never written -/
structure WSh {ω : Type} (K : PySem.W.Frag) (S : Sh) (H : Hp) (en : ω → D) (w : List ω) : Prop where
  at_ : ∀ i o, w[i]? = some o → ∃ a, S.mu i = some a ∧ Rp K S H (.ref a) (en o) Emp
theorem WSh.frame {ω : Type} {K : PySem.W.Frag} {S S' : Sh} {H H' : Hp} {en : ω → D} {w : List ω} (h : WSh K S H en w) (s : SL S S') : WSh K S' H' en w := ⟨fun i o e => by
  obtain ⟨a, ha, r⟩ := h.at_ i o e
  exact ⟨a, s.mu _ _ ha, r.frame s fun _ _ z => z.elim⟩⟩
def Env (K : PySem.W.Frag) (S : Sh) (H : Hp) (σ : L2.St) : {T : Type} → Lay T → T → FP → Prop
  | _, .nil _, _, P => P = Emp
  | _, .wld _ en, w, P => WOk K S H en w P
  | _, .rwd _ en, w, P => WSh K S H en w ∧ P = Emp
  | _, .cons _ _ _ l, (none, t), P => Env K S H σ l t P
  | _, .cons i m en l, (some a, t), P => ∃ v P1 P2, σ[i]? = some (some v) ∧ Rp K S H v (en a) P1 ∧ m.ok v P1 ∧ Env K S H σ l t P2 ∧ Disj P1 P2 ∧ P = fun x => P1 x ∨ P2 x
def Lay.no : {T : Type} → Lay T → Nat → Bool
  | _, .nil _, _ => true
  | _, .wld _ _, _ => true
  | _, .rwd _ _, _ => true
  | _, .cons j _ _ l, i => !decide (j = i) && l.no i
def Lay.tabs : {T : Type} → Lay T → TL
  | _, .nil τ => τ
  | _, .wld τ _ => τ
  | _, .rwd τ _ => τ
  | _, .cons _ _ _ l => l.tabs
section
variable {K : PySem.W.Frag} {S S' : Sh} {H H' : Hp} {σ : L2.St} {T α : Type} {l : Lay T} {t : T} {P P1 : FP} {v : V}
theorem Env.inH : ∀ {T : Type} {l : Lay T} {t : T} {P : FP}, Env K S H σ l t P → ∀ x, P x → ∃ o, H x = some o
  | _, .nil _, _, _, e, x, hx => by
    have e : _ = Emp := e
    rw [e] at hx; exact hx.elim
  | _, .rwd _ _, _, P, e, x, hx => by
    have e : _ ∧ P = Emp := e
    rw [e.2] at hx; exact hx.elim
  | _, .wld _ en, w, _, e, x, hx => WOk.inH (show WOk K S H en w _ from e) x hx
  | _, .cons _ _ _ l, (none, t), _, e, x, hx => Env.inH (l := l) (t := t) e x hx
  | _, .cons i m en l, (some a, t), _, e, x, hx => by
    obtain ⟨v, P1, P2, _, r, _, e2, _, rfl⟩ := e
    exact hx.elim (r.inH x) (Env.inH e2 x)
theorem Env.ntH : ∀ {T : Type} {l : Lay T} {t : T} {P : FP}, Env K S H σ l t P → ∀ x o, P x → H x = some o → NT o
  | _, .nil _, _, _, e, x, o, hx, _ => by
    have e : _ = Emp := e
    rw [e] at hx; exact hx.elim
  | _, .rwd _ _, _, P, e, x, o, hx, _ => by
    have e : _ ∧ P = Emp := e
    rw [e.2] at hx; exact hx.elim
  | _, .wld _ en, w, _, e, x, o, hx, z => WOk.ntH (show WOk K S H en w _ from e) x o hx z
  | _, .cons _ _ _ l, (none, t), _, e, x, o, hx, z => Env.ntH (l := l) (t := t) e x o hx z
  | _, .cons i m en l, (some a, t), _, e, x, o, hx, z => by
    obtain ⟨v, P1, P2, _, r, _, e2, _, rfl⟩ := e
    exact hx.elim (fun y => r.ntH x o y z) fun y => Env.ntH e2 x o y z
theorem Env.frame : ∀ {T : Type} {l : Lay T} {t : T} {P : FP}, Env K S H σ l t P → SL S S' → S'.mu = S.mu → (∀ x o, P x → NT o → H x = some o → H' x = some o) → Env K S' H' σ l t P
  | _, .nil _, _, _, e, _, _, _ => e
  | _, .rwd _ en, w, _, e, s, m, k => ⟨WSh.frame e.1 s, e.2⟩
  | _, .wld _ en, w, _, e, s, m, k => WOk.frame (show WOk K S H en w _ from e) s m k
  | _, .cons _ _ _ l, (none, t), _, e, s, m, k => Env.frame (l := l) (t := t) e s m k
  | _, .cons i _ en l, (some a, t), _, e, s, m, k => by
    obtain ⟨v, P1, P2, h, r, o, e2, dj, rfl⟩ := e
    exact ⟨v, P1, P2, h, r.frame s fun x o z => k x o (.inl z), o, Env.frame e2 s m fun x o z => k x o (.inr z), dj, rfl⟩
theorem Env.grow {τ : TL} (e : Env K S H σ l t P) (g : Grow τ S H S' H') : Env K S' H' σ l t P := e.frame g.s g.mu fun x o _ n q => g.h.at_ x o n q
theorem Env.set_no {i : Nat} {w : Option V} : ∀ {T : Type} {l : Lay T} {t : T} {P : FP}, l.no i = true → Env K S H σ l t P → Env K S H (σ.set i w) l t P
  | _, .nil _, _, _, _, e => e
  | _, .wld _ _, _, _, _, e => e
  | _, .rwd _ _, _, _, _, e => e
  | _, .cons _ _ _ l, (none, t), _, n, e => Env.set_no (l := l) (t := t) (by unfold Lay.no at n; exact (Bool.and_eq_true _ _ ▸ n).2) e
  | _, .cons j m en l, (some a, t), _, n, e => by
    unfold Lay.no at n
    rw [Bool.and_eq_true] at n
    obtain ⟨v, P1, P2, h, r, o, e2, dj, rfl⟩ := e
    have hj : j ≠ i := by
      have := n.1
      simpa using this
    exact ⟨v, P1, P2, by rw [List.getElem?_set_ne (Ne.symm hj)]; exact h, r, o, Env.set_no n.2 e2, dj, rfl⟩
/-- reading a name -/
structure Get (l : Lay T) (i : Nat) (m : Md) (en : α → D) (g : T → Option α) : Prop where
  get : ∀ {K : PySem.W.Frag} {S : Sh} {H : Hp} {σ : L2.St} {t : T} {P : FP} {a : α}, Env K S H σ l t P → g t = some a → ∃ v P1, σ[i]? = some (some v) ∧ Rp K S H v (en a) P1 ∧ m.ok v P1 ∧ ∀ x, P1 x → P x
theorem Get.z {i : Nat} {m : Md} {en : α → D} : Get (.cons i m en l) i m en (·.1) := ⟨fun {K S H σ t P a} e h => by
  obtain ⟨x, t⟩ := t
  cases h
  obtain ⟨v, P1, P2, h, r, o, _, _, rfl⟩ := e
  exact ⟨v, P1, h, r, o, fun x z => .inl z⟩⟩
theorem Get.s {β : Type} {i j : Nat} {m m' : Md} {en : α → D} {en' : β → D} {g : T → Option α} (q : Get l i m en g) : Get (.cons j m' en' l) i m en (fun t => g t.2) := ⟨fun {K S H σ t P a} e h => by
  obtain ⟨x, t⟩ := t
  cases x with
  | none => exact q.get (t := t) e h
  | some b =>
    obtain ⟨v, P1, P2, _, _, _, e2, _, rfl⟩ := e
    obtain ⟨v, P3, h, r, o, k⟩ := q.get e2 h
    exact ⟨v, P3, h, r, o, fun x z => .inr (k x z)⟩⟩
/-- storing a name -/
structure Put (l : Lay T) (i : Nat) (m : Md) (en : α → D) (p : T → α → T) : Prop where
  put : ∀ {K : PySem.W.Frag} {S : Sh} {H : Hp} {σ : L2.St} {t : T} {P P1 : FP} {a : α} {v : V}, Env K S H σ l t P → i < σ.length → Rp K S H v (en a) P1 → m.ok v P1 → Disj P1 P → ∃ P', Env K S H (σ.set i (some v)) l (p t a) P' ∧ ∀ x, P' x → P x ∨ P1 x
theorem Put.z {i : Nat} {m : Md} {en : α → D} (n : l.no i = true) : Put (.cons i m en l) i m en (fun t a => (some a, t.2)) := ⟨fun {K S H σ t P P1 a v} e hi r o dj => by
  obtain ⟨x, t⟩ := t
  cases x with
  | none => exact ⟨_, ⟨v, P1, P, List.getElem?_set_self hi, r, o, Env.set_no (t := t) n e, dj, rfl⟩, fun x z => z.elim .inr .inl⟩
  | some b =>
    obtain ⟨v', P3, P2, _, _, _, e2, _, rfl⟩ := e
    exact ⟨_, ⟨v, P1, P2, List.getElem?_set_self hi, r, o, Env.set_no n e2, fun x z w => dj x z (.inr w), rfl⟩, fun x z => z.elim .inr fun w => .inl (.inr w)⟩⟩
theorem Put.s {β : Type} {i j : Nat} {m m' : Md} {en : α → D} {en' : β → D} {p : T → α → T} (q : Put l i m en p) (ne : decide (j ≠ i) = true := by rfl) : Put (.cons j m' en' l) i m en (fun t a => (t.1, p t.2 a)) := ⟨fun {K S H σ t P P1 a v} e hi r o dj => by
  obtain ⟨x, t⟩ := t
  have ne := of_decide_eq_true ne
  cases x with
  | none => exact q.put (t := t) e hi r o dj
  | some b =>
    obtain ⟨v', P3, P2, h3, r3, o3, e2, d3, rfl⟩ := e
    obtain ⟨P', e4, k⟩ := q.put e2 hi r o fun x z w => dj x z (.inr w)
    refine ⟨_, ⟨v', P3, P', by rw [List.getElem?_set_ne (Ne.symm ne)]; exact h3, r3, o3, e4, fun x z w => ?_, rfl⟩, fun x z => z.elim (fun w => .inl (.inl w)) fun w => (k x w).elim (fun w => .inl (.inr w)) .inr⟩
    exact (k x w).elim (d3 x z) fun w => dj x w (.inl z)⟩
/-- two entries of one slot: the other one is forgotten -/
theorem Put.zc {β : Type} {i : Nat} {m m' : Md} {en : α → D} {en' : β → D} (n : l.no i = true) : Put (.cons i m en (.cons i m' en' l)) i m en (fun t a => (some a, (none, t.2.2))) := ⟨fun {K S H σ t P P1 a v} e hi r o dj => by
  obtain ⟨x, y, t⟩ := t
  have e1 : ∃ P', Env K S H σ l t P' ∧ ∀ x, P' x → P x := by
    cases x with
    | none =>
      cases y with
      | none => exact ⟨P, e, fun _ z => z⟩
      | some c =>
        obtain ⟨_, P3, P2, _, _, _, e2, _, rfl⟩ := e
        exact ⟨P2, e2, fun _ z => .inr z⟩
    | some b =>
      obtain ⟨_, P4, P5, _, _, _, e, _, rfl⟩ := e
      cases y with
      | none => exact ⟨P5, e, fun _ z => .inr z⟩
      | some c =>
        obtain ⟨_, P3, P2, _, _, _, e2, _, rfl⟩ := e
        exact ⟨P2, e2, fun _ z => .inr (.inr z)⟩
  obtain ⟨P', e1, k⟩ := e1
  exact ⟨_, ⟨v, P1, P', List.getElem?_set_self hi, r, o, Env.set_no (t := t) n e1, fun x z w => dj x z (k x w), rfl⟩, fun x z => z.elim .inr fun w => .inl (k x w)⟩⟩
theorem Put.cz {β : Type} {i : Nat} {m m' : Md} {en : α → D} {en' : β → D} (n : l.no i = true) : Put (.cons i m' en' (.cons i m en l)) i m en (fun t a => (none, (some a, t.2.2))) := ⟨fun {K S H σ t P P1 a v} e hi r o dj => by
  obtain ⟨x, y, t⟩ := t
  have e1 : ∃ P', Env K S H σ l t P' ∧ ∀ x, P' x → P x := by
    cases x with
    | none =>
      cases y with
      | none => exact ⟨P, e, fun _ z => z⟩
      | some c =>
        obtain ⟨_, P3, P2, _, _, _, e2, _, rfl⟩ := e
        exact ⟨P2, e2, fun _ z => .inr z⟩
    | some b =>
      obtain ⟨_, P4, P5, _, _, _, e, _, rfl⟩ := e
      cases y with
      | none => exact ⟨P5, e, fun _ z => .inr z⟩
      | some c =>
        obtain ⟨_, P3, P2, _, _, _, e2, _, rfl⟩ := e
        exact ⟨P2, e2, fun _ z => .inr (.inr z)⟩
  obtain ⟨P', e1, k⟩ := e1
  exact ⟨_, ⟨v, P1, P', List.getElem?_set_self hi, r, o, Env.set_no (t := t) n e1, fun x z w => dj x z (k x w), rfl⟩, fun x z => z.elim .inr fun w => .inl (k x w)⟩⟩
/-- taken out, and put back (the name stands still) -/
structure Tak (l : Lay T) (i : Nat) (m : Md) (en : α → D) (g : T → Option α) (p : T → Option α → T) : Prop where
  tak : ∀ {K : PySem.W.Frag} {S : Sh} {H : Hp} {σ : L2.St} {t : T} {P : FP} {a : α}, Env K S H σ l t P → g t = some a → ∃ v P1 P2, σ[i]? = some (some v) ∧ Rp K S H v (en a) P1 ∧ m.ok v P1 ∧ Env K S H σ l (p t none) P2 ∧ Disj P1 P2 ∧ P = fun x => P1 x ∨ P2 x
  bak : ∀ {K : PySem.W.Frag} {S : Sh} {H : Hp} {σ : L2.St} {t : T} {P1 P2 : FP} {a : α} {v : V}, Env K S H σ l (p t none) P2 → σ[i]? = some (some v) → Rp K S H v (en a) P1 → m.ok v P1 → Disj P1 P2 → Env K S H σ l (p t (some a)) fun x => P1 x ∨ P2 x
theorem Tak.z {i : Nat} {m : Md} {en : α → D} : Tak (.cons i m en l) i m en (·.1) (fun t a => (a, t.2)) := ⟨fun {K S H σ t P a} e h => by
  obtain ⟨x, t⟩ := t
  cases h
  exact e, fun e h r o dj => ⟨_, _, _, h, r, o, e, dj, rfl⟩⟩
theorem Tak.s {β : Type} {i j : Nat} {m m' : Md} {en : α → D} {en' : β → D} {g : T → Option α} {p : T → Option α → T} (q : Tak l i m en g p) : Tak (.cons j m' en' l) i m en (fun t => g t.2) (fun t a => (t.1, p t.2 a)) := ⟨fun {K S H σ t P a} e h => by
  obtain ⟨x, t⟩ := t
  cases x with
  | none => exact q.tak (t := t) e h
  | some b =>
    obtain ⟨v, P1, P2, h1, r1, o1, e2, d1, rfl⟩ := e
    obtain ⟨w, P3, P4, h3, r3, o3, e4, d3, rfl⟩ := q.tak e2 h
    refine ⟨w, P3, fun x => P1 x ∨ P4 x, h3, r3, o3, ⟨v, P1, P4, h1, r1, o1, e4, fun x z y => d1 x z (.inr y), rfl⟩, fun x z y => ?_, ?_⟩
    · exact y.elim (fun y => d1 x y (.inl z)) (d3 x z)
    · exact fp_eq fun x => ⟨fun z => z.elim (fun z => .inr (.inl z)) fun z => z.elim .inl fun z => .inr (.inr z), fun z => z.elim (fun z => .inr (.inl z)) fun z => z.elim .inl fun z => .inr (.inr z)⟩, fun {K S H σ t P1 P2 a v} e h r o dj => by
  obtain ⟨x, t⟩ := t
  cases x with
  | none => exact q.bak (t := t) e h r o dj
  | some b =>
    obtain ⟨w, P3, P4, h3, r3, o3, e4, d3, rfl⟩ := e
    have e5 := q.bak e4 h r o fun x z y => dj x z (.inr y)
    have ee : (fun x => P1 x ∨ (P3 x ∨ P4 x)) = fun x => P3 x ∨ (P1 x ∨ P4 x) := fp_eq fun x => ⟨fun z => z.elim (fun z => .inr (.inl z)) fun z => z.elim .inl fun z => .inr (.inr z), fun z => z.elim (fun z => .inr (.inl z)) fun z => z.elim .inl fun z => .inr (.inr z)⟩
    rw [ee]
    exact ⟨w, P3, _, h3, r3, o3, e5, fun x z y => y.elim (fun y => dj x y (.inl z)) (d3 x z), rfl⟩⟩
/-- forgotten -/
structure Fgt (l : Lay T) (p : T → T) : Prop where
  fgt : ∀ {K : PySem.W.Frag} {S : Sh} {H : Hp} {σ : L2.St} {t : T} {P : FP}, Env K S H σ l t P → ∃ P', Env K S H σ l (p t) P' ∧ ∀ x, P' x → P x
theorem Fgt.nil : Fgt l id := ⟨fun e => ⟨_, e, fun _ z => z⟩⟩
theorem Fgt.keep {β : Type} {j : Nat} {m' : Md} {en' : β → D} {p : T → T} (q : Fgt l p) : Fgt (.cons j m' en' l) (fun t => (t.1, p t.2)) := ⟨fun {K S H σ t P} e => by
  obtain ⟨x, t⟩ := t
  cases x with
  | none => exact q.fgt (t := t) e
  | some b =>
    obtain ⟨v, P1, P2, h, r, o, e2, dj, rfl⟩ := e
    obtain ⟨P', e3, k⟩ := q.fgt e2
    exact ⟨_, ⟨v, P1, P', h, r, o, e3, fun x z y => dj x z (k x y), rfl⟩, fun x z => z.elim .inl fun z => .inr (k x z)⟩⟩
theorem Fgt.drop {β : Type} {j : Nat} {m' : Md} {en' : β → D} {p : T → T} (q : Fgt l p) : Fgt (.cons j m' en' l) (fun t => (none, p t.2)) := ⟨fun {K S H σ t P} e => by
  obtain ⟨x, t⟩ := t
  cases x with
  | none => exact q.fgt (t := t) e
  | some b =>
    obtain ⟨v, P1, P2, h, r, o, e2, dj, rfl⟩ := e
    obtain ⟨P', e3, k⟩ := q.fgt e2
    exact ⟨P', e3, fun x z => .inr (k x z)⟩⟩
end
/-- no tuple, no exception's dict -/
def NTup (o : HO) : Prop := (∀ ws, o ≠ .tup ws) ∧ (∀ b ws, o ≠ .frz b (.tup ws)) ∧ ∀ ps, o ≠ .xd ps
section
variable {ω T α β : Type} {K : PySem.W.Frag} {S S' S2 : Sh} {H H' H2 : Hp} {vs : List V} {ds : List D} {v : V} {d : D} {P : FP} {σ : L2.St} {l : Lay T} {τ : TL}
theorem Rep.tupH (r : Rep K S H vs ds P) : ∀ x o, P x → H x = some o → NTup o := by
  have k : ∀ {p : Addr} {u o : HO}, H p = some u → NTup u → H p = some o → NTup o := fun h n e => by
    rw [h] at e
    cases e
    exact n
  induction r with
  | nil => exact fun x o h => h.elim
  | non _ ih | bl _ _ ih | int _ _ ih | str _ _ _ ih | gl _ _ ih | ty _ _ ih | adr _ _ ih => exact ih
  | hnd _ _ _ ih => exact ih
  | exo _ _ _ _ _ _ ih => exact ih
  | shl _ _ _ _ ih => exact ih
  | scr _ _ _ _ ih => exact ih
  | sho _ _ _ _ _ ih => exact ih
  | shd _ _ _ _ _ ih => exact ih
  | sht _ _ _ _ _ ih => exact ih
  | owl h _ _ _ _ _ i1 i2 => exact fun x o hx e => hx.elim (fun z => k h ⟨(fun _ z => nomatch z), (fun _ _ z => nomatch z), (fun _ z => nomatch z)⟩ (z ▸ e)) fun hx => hx.elim (fun z => i1 x o z e) fun z => i2 x o z e
  | tup _ _ _ _ _ i1 i2 => exact fun x o hx e => hx.elim (fun z => i1 x o z e) fun z => i2 x o z e
  | dic h _ _ _ _ _ _ i1 i2 => exact fun x o hx e => hx.elim (fun z => k h ⟨(fun _ z => nomatch z), (fun _ _ z => nomatch z), (fun _ z => nomatch z)⟩ (z ▸ e)) fun hx => hx.elim (fun z => i1 x o z e) fun z => i2 x o z e
  | dit h _ _ _ _ _ _ i1 i2 => exact fun x o hx e => hx.elim (fun z => k h ⟨(fun _ z => nomatch z), (fun _ _ z => nomatch z), (fun _ z => nomatch z)⟩ (z ▸ e)) fun hx => hx.elim (fun z => i1 x o z e) fun z => i2 x o z e
  | obj h _ _ _ _ _ _ i1 i2 => exact fun x o hx e => hx.elim (fun z => k h ⟨(fun _ z => nomatch z), (fun _ _ z => nomatch z), (fun _ z => nomatch z)⟩ (z ▸ e)) fun hx => hx.elim (fun z => i1 x o z e) fun z => i2 x o z e
theorem WOk.tupH {en : ω → D} {w : List ω} (h : WOk K S H en w P) : ∀ x o, P x → H x = some o → NTup o := fun x o hx e => by
  obtain ⟨Ps, h1, h2, _, h4⟩ := h.ex
  obtain ⟨i, hi⟩ := (h4 x).mp hx
  by_cases hl : i < w.length
  · obtain ⟨a, _, r, _⟩ := h1 i _ (List.getElem?_eq_getElem hl)
    exact r.tupH x o hi e
  · exact absurd hi ((h2 i (by omega)).2 x)
theorem Env.tupH : ∀ {T : Type} {l : Lay T} {t : T} {P : FP}, Env K S H σ l t P → ∀ x o, P x → H x = some o → NTup o
  | _, .nil _, _, _, e, x, o, hx, _ => by
    have e : _ = Emp := e
    rw [e] at hx; exact hx.elim
  | _, .rwd _ _, _, P, e, x, o, hx, _ => by
    have e : _ ∧ P = Emp := e
    rw [e.2] at hx; exact hx.elim
  | _, .wld _ en, w, _, e, x, o, hx, z => WOk.tupH (show WOk K S H en w _ from e) x o hx z
  | _, .cons _ _ _ l, (Option.none, t), _, e, x, o, hx, z => Env.tupH (l := l) (t := t) e x o hx z
  | _, .cons i m en l, (some a, t), _, e, x, o, hx, z => by
    obtain ⟨v, P1, P2, _, r, _, e2, _, rfl⟩ := e
    exact hx.elim (fun y => r.tupH x o y z) fun y => Env.tupH e2 x o y z
open Classical in
noncomputable def unfrz (P : FP) (S' : Sh) : Sh := ⟨fun x => if P x then none else S' x, S'.mu⟩
open Classical in
/-- what was lent is the frame's own again -/
theorem Grow.unfrz {S1 : Sh} {H1 : Hp} {P : FP} (c : Cfg τ S1 H1 P) (tH : ∀ x o, P x → H1 x = some o → NTup o) (nt : ∀ x o, P x → H1 x = some o → NT o) (g : Grow τ (frz S1 H1 P) H1 S' H') : Grow τ S1 H1 (M.unfrz P S') H' ∧ ∀ p ws, SqT K S' p ws → SqT K (M.unfrz P S') p ws := by
  have out : ∀ x o, ¬ P x → S' x = some o → (M.unfrz P S') x = some o := fun x o n e => (if_neg n).trans e
  have inn : ∀ x o, (M.unfrz P S') x = some o → ¬ P x ∧ S' x = some o := fun x o e => by
    have e : (if P x then none else S' x) = some o := e
    by_cases hx : P x
    · rw [if_pos hx] at e; cases e
    · rw [if_neg hx] at e; exact ⟨hx, e⟩
  refine ⟨⟨⟨fun x o e => ?_, fun i a e => g.s.mu i a e⟩, g.mu, g.h, ⟨fun x o e => g.sub x o (inn x o e).2, fun x ps e => g.sub.nt x ps (inn x _ e).2, g.sub.tb⟩, fun x o e => ?_⟩, fun p ws h => ?_⟩
  · have hx : ¬ P x := fun hx => by rw [c.sep x hx] at e; cases e
    exact out x o hx (g.s x o (by show (if P x then H1 x else S1 x) = _; rw [if_neg hx]; exact e))
  · obtain ⟨hx, e⟩ := inn x o e
    rcases g.new x o e with ⟨u, z⟩ | z
    · exact .inl ⟨u, by have z : (if P x then H1 x else S1 x) = _ := z; rw [if_neg hx] at z; exact z⟩
    · exact .inr z
  · have no : ∀ o, S' p = some o → ¬ NTup o → ¬ P p := fun o e n hp => by
      obtain ⟨u, hu⟩ := c.inh p hp
      have h2 := g.h.at_ p u (nt p u hp hu) hu
      rw [g.sub p o e] at h2
      cases h2
      exact n (tH p o hp hu)
    rcases h with (h | ⟨o, h⟩) | h
    · exact .inl (.inl (out _ _ (no _ h fun z => z.1 ws rfl) h))
    · exact .inl (.inr ⟨o, out _ _ (no _ h fun z => z.2.1 o ws rfl) h⟩)
    · exact .inr h
end
end M

namespace M
open Enc (enc)
open PySem PySem.Spec PyProof.Rows L2 W
/-! ### expressions -/
def RQ {α : Type} (r : Res α) (ok : α → Prop) (ex : Exn → Prop) : Prop := match r with
  | .ok a => ok a
  | .ex e => ex e
  | .stuck => False
section
variable {α β : Type} {r : Res α} {k : α → Res β} {ok ok' : α → Prop} {ok2 : β → Prop} {ex ex' : Exn → Prop}
theorem RQ.bind (h : RQ (r.bind k) ok2 ex) : RQ r (fun a => RQ (k a) ok2 ex) ex := by
  cases r with
  | ok a => exact h
  | ex e => exact h
  | stuck => exact h
theorem RQ.imp (h : RQ r ok ex) (a : ∀ x, ok x → ok' x) (b : ∀ e, ex e → ex' e) : RQ r ok' ex' := by
  cases r with
  | ok x => exact a x h
  | ex e => exact b e h
  | stuck => exact h
theorem RQ.ofO {o : Option α} (h : RQ (Res.ofO o) ok ex) : ∃ a, o = some a ∧ ok a := by
  cases o with
  | none => exact h.elim
  | some a => exact ⟨a, rfl, h⟩
theorem RQ.chk {c : Bool} {a : α} (h : RQ (Res.chk c a) ok ex) : c = true ∧ ok a := by
  cases c with
  | false => exact h.elim
  | true => exact ⟨rfl, h⟩
end
theorem nd_head {d : D} {ds : List D} (n : ND (d :: ds)) : ND [d] ∧ ND ds := by
  cases n with
  | non b => exact ⟨.non .nil, b⟩
  | bl b => exact ⟨.bl .nil, b⟩
  | int b => exact ⟨.int .nil, b⟩
  | str b => exact ⟨.str .nil, b⟩
  | gl b => exact ⟨.gl .nil, b⟩
  | ty b => exact ⟨.ty .nil, b⟩
  | hnd b => exact ⟨.hnd .nil, b⟩
  | adr b => exact ⟨.adr .nil, b⟩
  | exo b => exact ⟨.exo .nil, b⟩
  | lst a b => exact ⟨.lst a .nil, b⟩
  | scr a b => exact ⟨.scr a .nil, b⟩
  | tup a b => exact ⟨.tup a .nil, b⟩
  | obj a b => exact ⟨.obj a .nil, b⟩
  | dic a b => exact ⟨.dic a .nil, b⟩
  | dit a b => exact ⟨.dit a .nil, b⟩
/-- how an exception lies -/
def ExRel (K : PySem.W.Frag) (e : Exn) (cls : Value) (d : Option Addr) (S : Sh) : Prop := cls = .ref (He.ga K e.cls) ∧ match e.arg with
  | none => d = none
  | some n => ∃ dx, d = some dx ∧ S dx = some (.xd [("name", .str n)]) ∧ sOk n = true
theorem ExRel.unfrz {T : Type} {l : Lay T} {τ τ2 : TL} {K : PySem.W.Frag} {e : Exn} {cls : Value} {d : Option Addr} {S1 S' : Sh} {H1 H' : Hp} {P : FP} {σ : L2.St} {t : T} (x : ExRel K e cls d S') (c : Cfg τ S1 H1 P) (E : Env K S1 H1 σ l t P) (g : Grow τ2 (frz S1 H1 P) H1 S' H') : ExRel K e cls d (M.unfrz P S') := by
  refine ⟨x.1, ?_⟩
  have x2 := x.2
  cases ea : e.arg with
  | none => rw [ea] at x2; exact x2
  | some n =>
    rw [ea] at x2
    obtain ⟨dx, h1, h2, h3⟩ := x2
    refine ⟨dx, h1, ?_, h3⟩
    have hp : ¬ P dx := fun hp => by
      obtain ⟨u, hu⟩ := c.inh dx hp
      have h4 := g.h.at_ dx u (E.ntH dx u hp hu) hu
      rw [g.sub dx _ h2] at h4
      cases h4
      exact (E.tupH dx _ hp hu).2.2 _ rfl
    exact (if_neg hp).trans h2
/-- data of which each lies within P -/
inductive RepB (K : PySem.W.Frag) (S : Sh) (H : Hp) (P : FP) : List V → List D → Prop
  | nil : RepB K S H P [] []
  | cons {v : V} {vs : List V} {d : D} {ds : List D} {P1 : FP} : Rp K S H v d P1 → Fl v P1 → (∀ x, P1 x → P x) → RepB K S H P vs ds → RepB K S H P (v :: vs) (d :: ds)
theorem RepB.freeze {K : PySem.W.Frag} {S S2 : Sh} {H : Hp} {P : FP} {vs : List V} {ds : List D} (sub : Same S H) (r : RepB K S H P vs ds) : ND ds → SL S S2 → Same S2 H → (∀ x o, P x → H x = some o → S2 x = some o) → Rep K S2 H vs ds Emp := by
  induction r with
  | nil => exact fun _ _ _ _ => .nil
  | cons h _ k _ ih => exact fun n a b c => (Rep.freeze sub h (nd_head n).1 a b fun x o hx z => c x o (k x hx) z).joinE (ih (nd_head n).2 a b c)
abbrev W0 : WX := fun _ _ _ _ => False
section
variable {T α β γ : Type} (K : PySem.W.Frag) (l : Lay T) (W : WX)
def ExQ (τ : TL) (W : WX) (S : Sh) (H : Hp) (σ : L2.St) (e : Exn) : Prop := ∀ S' H' cls d, Grow τ S H S' H' → ExRel K e cls d S' → W cls d σ H'
/-- its value is shared (or no object at all) -/
def tME (en : α → D) (f : T → Res α) : TE := fun σ H Q => ∃ S t P, Cfg l.tabs S H P ∧ Env K S H σ l t P ∧ RQ (f t) (fun a => ∀ v S' H', Grow l.tabs S H S' H' → Rp K S' H' v (en a) Emp → Q v H') (ExQ K l.tabs W S H σ)
/-- it may be owned by a name -/
def tMB (en : α → D) (f : T → Res α) : TE := fun σ H Q => ∃ S t P, Cfg l.tabs S H P ∧ Env K S H σ l t P ∧ RQ (f t) (fun a => ∀ v S' H' P1, Grow l.tabs S H S' H' → Rp K S' H' v (en a) P1 → Fl v P1 → (∀ x, P1 x → P x) → Q v H') (ExQ K l.tabs W S H σ)
/-- it is new, and nobody's -/
def tMO (m : Md) (en : α → D) (f : T → Res α) : TE := fun σ H Q => ∃ S t P, Cfg l.tabs S H P ∧ Env K S H σ l t P ∧ RQ (f t) (fun a => ∀ v S' H' P1, Grow l.tabs S H S' H' → Rp K S' H' v (en a) P1 → m.ok v P1 → (∀ x, P1 x → H x = none ∧ S' x = none) → Q v H') (ExQ K l.tabs W S H σ)
def tMT (f : T → Res Bool) : TT := fun σ H Q => ∃ S t P, Cfg l.tabs S H P ∧ Env K S H σ l t P ∧ RQ (f t) (fun a => ∀ S' H', Grow l.tabs S H S' H' → Q a H') (ExQ K l.tabs W S H σ)
/-- several values, all shared -/
def tMA (en : α → List D) (f : T → Res α) : TA := fun σ H Q => ∃ S t P, Cfg l.tabs S H P ∧ Env K S H σ l t P ∧ RQ (f t) (fun a => ∀ vs S' H', Grow l.tabs S H S' H' → Rep K S' H' vs (en a) Emp → Q vs H') (ExQ K l.tabs W S H σ)
/-- several values, some of them owned by names -/
def tMAB (en : α → List D) (f : T → Res α) : TA := fun σ H Q => ∃ S t P, Cfg l.tabs S H P ∧ Env K S H σ l t P ∧ RQ (f t) (fun a => ∀ vs S' H', Grow l.tabs S H S' H' → RepB K S' H' P vs (en a) → Q vs H') (ExQ K l.tabs W S H σ)
end
section
variable {X : Cx} {T α β γ δ : Type} {l : Lay T} {W : WX} {e e1 e2 : Expr} {ea : α → D} {eb : β → D} {ec : γ → D} {f : T → Res α} {g : T → Res β} {pos : Pos}
theorem me_b (h : PE X e (tME X.K l W ea f)) : PE X e (tMB X.K l W ea f) := PE.imp h fun σ H Q ⟨S, t, P, c, E, q⟩ => ⟨S, t, P, c, E, q.imp (fun a q v S' H' g r => q v S' H' Emp g r (.inl rfl) fun _ z => z.elim) fun _ z => z⟩
theorem me_o (h : PE X e (tME X.K l W ea f)) : PE X e (tMO X.K l W .sh ea f) := PE.imp h fun σ H Q ⟨S, t, P, c, E, q⟩ => ⟨S, t, P, c, E, q.imp (fun a q v S' H' g r => q v S' H' Emp g r rfl fun _ z => z.elim) fun _ z => z⟩
/-- what is new is shared -/
theorem mo_e {m : Md} [F : Frz ea] (h : PE X e (tMO X.K l W m ea f)) : PE X e (tME X.K l W ea f) := PE.imp h fun σ H Q ⟨S, t, P, c, E, q⟩ => ⟨S, t, P, c, E, q.imp (fun a q v S' H' P1 g r _ n => by
  refine q v (frz S' H' P1) H' ⟨g.s.trans (frz_same g.sub), g.mu, g.h, frz_sub g.sub r.ntH, fun x o z => ?_⟩ (Rep.freeze g.sub r (F.nd a) (frz_same g.sub) (frz_sub0 g.sub) fun x o hx z => by rw [frz_in hx]; exact z)
  by_cases hx : P1 x
  · exact .inr (n x hx).1
  · rw [frz_out hx] at z; exact g.new x o z) fun _ z => z⟩
theorem mo_b {m : Md} [F : Frz ea] (h : PE X e (tMO X.K l W m ea f)) : PE X e (tMB X.K l W ea f) := me_b (mo_e h)
/-! names, constants -/
theorem me_var {i : Nat} {get : T → Option α} (hv : PE X e (tVar i)) (q : Get l i .sh ea get) : PE X e (tME X.K l W ea fun t => .ofO (get t)) := PE.imp hv fun σ H Q ⟨S, t, P, c, E, h⟩ => by
  obtain ⟨a, e, h⟩ := h.ofO
  obtain ⟨v, P1, hs, r, o, _⟩ := q.get E e
  have o : P1 = Emp := o
  subst o
  exact ⟨v, hs, h v S H (.refl c.sub) r⟩
theorem mb_var {i : Nat} {m : Md} {get : T → Option α} (hv : PE X e (tVar i)) (q : Get l i m ea get) (fl : m.flat = true := by rfl) : PE X e (tMB X.K l W ea fun t => .ofO (get t)) := PE.imp hv fun σ H Q ⟨S, t, P, c, E, h⟩ => by
  obtain ⟨a, e, h⟩ := h.ofO
  obtain ⟨v, P1, hs, r, o, k⟩ := q.get E e
  exact ⟨v, hs, h v S H P1 (.refl c.sub) r (Md.fl o fl) k⟩
theorem me_c {v : V} {a : α} (hc : PE X e (tC v)) (r : ∀ S H, Rp X.K S H v (ea a) Emp) : PE X e (tME X.K l W ea fun _ => .ok a) := PE.imp hc fun σ H Q ⟨S, t, P, c, E, h⟩ => h v S H (.refl c.sub) (r S H)
theorem me_int {i : Int} {j} : PE X (.Constant (.int i) j pos) (tME X.K l W Enc.enc fun _ => .ok i) := me_c pe_int fun _ _ => Rep.int i .nil
theorem me_bl {i : Bool} {j} : PE X (.Constant (.bool i) j pos) (tME X.K l W Enc.enc fun _ => .ok i) := me_c pe_bl fun _ _ => Rep.bl i .nil
theorem me_non {j} : PE X (.Constant .none j pos) (tME X.K l W (Enc.enc : Unit → D) fun _ => .ok ()) := me_c pe_non fun _ _ => Rep.non .nil
theorem me_str {i : Str} {j} (h : sOk i = true := by decide +kernel) : PE X (.Constant (.str i) j pos) (tME X.K l W Enc.enc fun _ => .ok i) := me_c pe_str fun _ _ => Rep.str i h .nil
/-- None, or a thing, where either may be -/
theorem me_no [Enc α] (h : PE X e (tME X.K l W (Enc.enc : Unit → D) fun _ => .ok ())) : PE X e (tME X.K l W (Enc.enc : Option α → D) fun _ => .ok none) := h
theorem me_some [Enc α] {f : T → Res α} (h : PE X e (tME X.K l W Enc.enc f)) : PE X e (tME X.K l W (Enc.enc : Option α → D) (op1 (fun a => .ok (some a)) f)) := PE.imp h fun σ H Q ⟨S, t, P, c, E, q⟩ => ⟨S, t, P, c, E, q.bind⟩
/-- the same data, seen as another type -/
theorem me_as {fb : β → α} {g : T → Res β} (h : PE X e (tME X.K l W ea fun t => (g t).bind fun b => .ok (fb b))) (k : ∀ b, ea (fb b) = eb b) : PE X e (tME X.K l W eb g) := PE.imp h fun σ H Q ⟨S, t, P, c, E, q⟩ => ⟨S, t, P, c, E, by
  cases hg : g t with
  | ok b =>
    rw [hg] at q
    show RQ ((g t).bind _) _ _
    rw [hg]
    exact fun v S' H' gr r => q v S' H' gr (by rw [← k b]; exact r)
  | ex e =>
    rw [hg] at q
    show RQ ((g t).bind _) _ _
    rw [hg]
    exact q
  | stuck =>
    rw [hg] at q
    exact q.elim⟩
theorem mb_as {fb : β → α} {g : T → Res β} (h : PE X e (tMB X.K l W eb g)) (k : ∀ b, ea (fb b) = eb b) : PE X e (tMB X.K l W ea (op1 (fun b => .ok (fb b)) g)) := PE.imp h fun σ H Q ⟨S, t, P, c, E, q⟩ => ⟨S, t, P, c, E, q.bind.imp (fun b q v S' H' P1 g r f k' => (show ∀ v S' H' P1, Grow l.tabs S H S' H' → Rp X.K S' H' v (ea (fb b)) P1 → Fl v P1 → (∀ x, P1 x → P x) → Q v H' from q) v S' H' P1 g (by rw [k b]; exact r) f k') fun _ z => z⟩
theorem enc_some [Enc α] (xs : List α) : (Enc.enc (xs.map some) : D) = Enc.enc xs := congrArg D.lst (List.map_map ..)
/-! operators -/
def NoX {α : Type} (r : Res α) : Prop := ∀ e, r ≠ .ex e
theorem nx_ok {α : Type} {a : α} : NoX (.ok a) := fun e h => nomatch h
theorem nx_ofO {α : Type} {o : Option α} : NoX (Res.ofO o) := fun e h => by cases o <;> cases h
theorem nx_chk {α : Type} {c : Bool} {a : α} : NoX (Res.chk c a) := fun e h => by cases c <;> cases h
theorem RQ.nox {α : Type} {r : Res α} {ok : α → Prop} {ex : Exn → Prop} (h : RQ r ok ex) (n : NoX r) : RQ r ok (fun _ => False) := by
  cases r with
  | ok a => exact h
  | ex e => exact absurd rfl (n e)
  | stuck => exact h
structure Op2 (K : PySem.W.Frag) (r : R2) (ea : α → D) (eb : β → D) (ec : γ → D) (g : α → β → Res γ) : Prop where
  run : ∀ {τ : TL} {S : Sh} {H : Hp} {x y : V} {a : α} {b : β} {P1 P2 : FP} {Q : VK}, Sub τ S H → Rp K S H x (ea a) P1 → Rp K S H y (eb b) P2 → Fl x P1 → Fl y P2 → RQ (g a b) (fun c => ∀ w S' H', Grow τ S H S' H' → Rp K S' H' w (ec c) Emp → Q w H') (fun _ => False) → r x y H Q
  nox : ∀ a b, NoX (g a b) := by first | exact fun _ _ => nx_ok | exact fun _ _ => nx_ofO | exact fun _ _ => nx_chk
structure Op1 (K : PySem.W.Frag) (r : V → Hp → VK → Prop) (ea : α → D) (eb : β → D) (g : α → Res β) : Prop where
  run : ∀ {τ : TL} {S : Sh} {H : Hp} {x : V} {a : α} {P1 : FP} {Q : VK}, Sub τ S H → Rp K S H x (ea a) P1 → Fl x P1 → RQ (g a) (fun c => ∀ w S' H', Grow τ S H S' H' → Rp K S' H' w (eb c) Emp → Q w H') (fun _ => False) → r x H Q
  nox : ∀ a, NoX (g a) := by first | exact fun _ => nx_ok | exact fun _ => nx_ofO | exact fun _ => nx_chk
theorem exq_grow {τ : TL} {K : PySem.W.Frag} {S S' : Sh} {H H' : Hp} {σ : L2.St} {e : Exn} (q : ExQ K τ W S H σ e) (g : Grow τ S H S' H') : ExQ K τ W S' H' σ e := fun S2 H2 cls d g2 x => q S2 H2 cls d (g.trans g2) x
/-- two operands, then what is done with them -/
theorem mb_two {h : α → β → Res γ} {R : R2} (o : Op2 X.K R ea eb ec h) (σ : L2.St) (H : Hp) (Q : VK) : tME X.K l W ec (op2 h f g) σ H Q → tOp R (tMB X.K l W ea f) (tMB X.K l W eb g) σ H Q := fun ⟨S, t, P, c, E, q⟩ =>
  ⟨S, t, P, c, E, q.bind.imp (fun a q v S1 H1 P1 g1 r1 f1 k1 => ⟨S1, t, P, c.grow g1, E.grow g1, q.bind.imp (fun b q w S2 H2 P2 g2 r2 f2 k2 => o.run g2.sub (r1.grow g2) r2 f1 f2 ((q.nox (o.nox a b)).imp (fun z q w S' H' g3 r3 => q w S' H' ((g1.trans g2).trans g3) r3) fun _ z => z)) fun _ z => exq_grow z g1⟩) fun _ z => z⟩
theorem mb_one {h : α → Res β} {R : V → Hp → VK → Prop} (o : Op1 X.K R ea eb h) (σ : L2.St) (H : Hp) (Q : VK) : tME X.K l W eb (op1 h f) σ H Q → tUn R (tMB X.K l W ea f) σ H Q := fun ⟨S, t, P, c, E, q⟩ =>
  ⟨S, t, P, c, E, q.bind.imp (fun a q v S1 H1 P1 g1 r1 f1 k1 => o.run g1.sub r1 f1 ((q.nox (o.nox a)).imp (fun z q w S' H' g3 r3 => q w S' H' (g1.trans g3) r3) fun _ z => z)) fun _ z => z⟩
theorem me_op {op : Operator} {R : R2} {h : α → β → Res γ} (ho : OpR X (binaryOp op) R) (o : Op2 X.K R ea eb ec h) (ha : PE X e1 (tMB X.K l W ea f)) (hb : PE X e2 (tMB X.K l W eb g)) : PE X (.BinOp e1 op e2 pos) (tME X.K l W ec (op2 h f g)) := PE.imp (pe_op ho ha hb) (mb_two o)
theorem me_cmp {op : CmpOp} {R : R2} {h : α → β → Res Bool} (ho : OpR X (compareOp op) R) (o : Op2 X.K R ea eb Enc.enc h) (hm : behindInMarks op e2 = false) (ha : PE X e1 (tMB X.K l W ea f)) (hb : PE X e2 (tMB X.K l W eb g)) : PE X (.Compare e1 [op] [e2] pos) (tME X.K l W Enc.enc (op2 h f g)) := PE.imp (pe_cmpR ho ha hb hm) (mb_two o)
theorem me_un {op : UnaryOp} {R : V → Hp → VK → Prop} {h : α → Res β} (ho : UnR X (unaryOp op) R) (o : Op1 X.K R ea eb h) (ha : PE X e1 (tMB X.K l W ea f)) : PE X (.UnaryOp op e1 pos) (tME X.K l W eb (op1 h f)) := PE.imp (pe_un ho ha) (mb_one o)
/-! tests -/
theorem PT.imp {t t' : TT} (h : PT X e t) (k : ∀ σ H Q, t' σ H Q → t σ H Q) : PT X e t' := ⟨fun pins s σ H Q I z => h.run pins s σ H Q I (k σ H Q z)⟩
theorem PW.imp {t t' : TT} (h : PW X e t) (k : ∀ σ H Q, t' σ H Q → t σ H Q) : PW X e t' := ⟨fun w pins s σ H Q I z => h.run w pins s σ H Q I (k σ H Q z)⟩
theorem mt_of {c : T → Res Bool} (σ : L2.St) (H : Hp) (Q : Bool → Hp → Prop) : tMT X.K l W c σ H Q → tME X.K l W (Enc.enc : Bool → D) c σ H fun x H1 => ∃ k, x = .bl k ∧ Q k H1 := fun ⟨S, t, P, cf, E, q⟩ => ⟨S, t, P, cf, E, q.imp (fun a q v S' H' g r => ⟨a, (Rp.bl r).1, q S' H' g⟩) fun _ z => z⟩
theorem mt_val {c : T → Res Bool} (h : PE X e (tME X.K l W Enc.enc c)) (he : ∀ whole, isTrue e X.env whole = (do let v ← whole; standAt e.pos; holding [v] (truthy v)) := by intro _; rfl) : PT X e (tMT X.K l W c) := PT.imp (pt_val h he) fun σ H Q z => mt_of σ H Q z
theorem mt_cmp {op : CmpOp} {R : R2} {h : α → β → Res Bool} (ho : OpR X (compareOp op) R) (o : Op2 X.K R ea eb Enc.enc h) (hm : behindInMarks op e2 = false) (ha : PE X e1 (tMB X.K l W ea f)) (hb : PE X e2 (tMB X.K l W eb g)) : PT X (.Compare e1 [op] [e2] pos) (tMT X.K l W (op2 h f g)) :=
  PT.imp (pt_cmpR ho ha hb hm) fun σ H Q z => mb_two o σ H _ (mt_of σ H Q z)
theorem mt_not {c : T → Res Bool} (h : PT X e (tMT X.K l W c)) : PT X (.UnaryOp .Not e pos) (tMT X.K l W (notE c)) := PT.imp (pt_not h) fun σ H Q ⟨S, t, P, cf, E, q⟩ => ⟨S, t, P, cf, E, q.bind⟩
theorem mw_one {c : T → Res Bool} {op : BoolOp} (h : PW X (.BoolOp op [e] pos) (tMT X.K l W c)) : PW X (.BoolOp op [e] pos) (tMT X.K l W c) := h
theorem mw_and {c d : T → Res Bool} {rest : List Expr} (ha : PT X e1 (tMT X.K l W c)) (hb : PW X (.BoolOp .And (e2 :: rest) pos) (tMT X.K l W d)) : PW X (.BoolOp .And (e1 :: e2 :: rest) pos) (tMT X.K l W (andE c d)) := PW.imp (pw_and ha hb) fun σ H Q ⟨S, t, P, cf, E, q⟩ =>
  ⟨S, t, P, cf, E, q.bind.imp (fun a q S1 H1 g1 => by
    cases a with
    | true =>
      rw [if_pos rfl]
      exact ⟨S1, t, P, cf.grow g1, E.grow g1, RQ.imp q (fun b q S2 H2 g2 => q S2 H2 (g1.trans g2)) fun _ z => exq_grow z g1⟩
    | false =>
      rw [if_neg (by decide)]
      exact (show ∀ S' H', Grow l.tabs S H S' H' → Q false H' from q) S1 H1 g1) fun _ z => z⟩
theorem mw_or {c d : T → Res Bool} {rest : List Expr} (ha : PT X e1 (tMT X.K l W c)) (hb : PW X (.BoolOp .Or (e2 :: rest) pos) (tMT X.K l W d)) : PW X (.BoolOp .Or (e1 :: e2 :: rest) pos) (tMT X.K l W (orE c d)) := PW.imp (pw_or ha hb) fun σ H Q ⟨S, t, P, cf, E, q⟩ =>
  ⟨S, t, P, cf, E, q.bind.imp (fun a q S1 H1 g1 => by
    cases a with
    | false =>
      rw [if_neg (by decide)]
      exact ⟨S1, t, P, cf.grow g1, E.grow g1, RQ.imp q (fun b q S2 H2 g2 => q S2 H2 (g1.trans g2)) fun _ z => exq_grow z g1⟩
    | true =>
      rw [if_pos rfl]
      exact (show ∀ S' H', Grow l.tabs S H S' H' → Q true H' from q) S1 H1 g1) fun _ z => z⟩
/-- as values -/
theorem me_and {c d : T → Res Bool} {rest : List Expr} (ha : PE X e1 (tME X.K l W Enc.enc c)) (hb : PE X (.BoolOp .And (e2 :: rest) pos) (tME X.K l W Enc.enc d)) : PE X (.BoolOp .And (e1 :: e2 :: rest) pos) (tME X.K l W Enc.enc (andE c d)) := PE.imp (pe_and ha hb) fun σ H Q ⟨S, t, P, cf, E, q⟩ =>
  ⟨S, t, P, cf, E, q.bind.imp (fun a q v S1 H1 g1 r1 => ⟨a, (Rp.bl r1).1, by
    cases a with
    | true =>
      rw [if_pos rfl]
      exact ⟨S1, t, P, cf.grow g1, E.grow g1, RQ.imp q (fun b q v S2 H2 g2 r => q v S2 H2 (g1.trans g2) r) fun _ z => exq_grow z g1⟩
    | false =>
      rw [if_neg (by decide)]
      exact (show ∀ v S' H', Grow l.tabs S H S' H' → Rp X.K S' H' v (.bl false) Emp → Q v H' from q) _ S1 H1 g1 (Rep.bl false .nil)⟩) fun _ z => z⟩
theorem me_or {c d : T → Res Bool} {rest : List Expr} (ha : PE X e1 (tME X.K l W Enc.enc c)) (hb : PE X (.BoolOp .Or (e2 :: rest) pos) (tME X.K l W Enc.enc d)) : PE X (.BoolOp .Or (e1 :: e2 :: rest) pos) (tME X.K l W Enc.enc (orE c d)) := PE.imp (pe_or ha hb) fun σ H Q ⟨S, t, P, cf, E, q⟩ =>
  ⟨S, t, P, cf, E, q.bind.imp (fun a q v S1 H1 g1 r1 => ⟨a, (Rp.bl r1).1, by
    cases a with
    | false =>
      rw [if_neg (by decide)]
      exact ⟨S1, t, P, cf.grow g1, E.grow g1, RQ.imp q (fun b q v S2 H2 g2 r => q v S2 H2 (g1.trans g2) r) fun _ z => exq_grow z g1⟩
    | true =>
      rw [if_pos rfl]
      exact (show ∀ v S' H', Grow l.tabs S H S' H' → Rp X.K S' H' v (.bl true) Emp → Q v H' from q) _ S1 H1 g1 (Rep.bl true .nil)⟩) fun _ z => z⟩
theorem me_not {c : T → Res Bool} (ha : PE X e (tME X.K l W Enc.enc c)) : PE X (.UnaryOp .Not e pos) (tME X.K l W Enc.enc (notE c)) := PE.imp (pe_not ha) fun σ H Q ⟨S, t, P, cf, E, q⟩ =>
  ⟨S, t, P, cf, E, q.bind.imp (fun a q v S1 H1 g1 r1 => ⟨a, (Rp.bl r1).1, (show ∀ v S' H', Grow l.tabs S H S' H' → Rp X.K S' H' v (.bl (!a)) Emp → Q v H' from q) _ S1 H1 g1 (Rep.bl _ .nil)⟩) fun _ z => z⟩
theorem me_if {c : Expr} {d : T → Res Bool} {f2 : T → Res α} (hc : PT X c (tMT X.K l W d)) (ha : PE X e1 (tME X.K l W ea f)) (hb : PE X e2 (tME X.K l W ea f2)) : PE X (.IfExp c e1 e2 pos) (tME X.K l W ea (iteE d f f2)) := PE.imp (pe_ifExp hc ha hb) fun σ H Q ⟨S, t, P, cf, E, q⟩ =>
  ⟨S, t, P, cf, E, q.bind.imp (fun a q S1 H1 g1 => by
    cases a with
    | true =>
      rw [if_pos rfl]
      exact ⟨S1, t, P, cf.grow g1, E.grow g1, RQ.imp q (fun b q v S2 H2 g2 r => q v S2 H2 (g1.trans g2) r) fun _ z => exq_grow z g1⟩
    | false =>
      rw [if_neg (by decide)]
      exact ⟨S1, t, P, cf.grow g1, E.grow g1, RQ.imp q (fun b q v S2 H2 g2 r => q v S2 H2 (g1.trans g2) r) fun _ z => exq_grow z g1⟩) fun _ z => z⟩
/-! arguments -/
theorem ma_nil : PA X [] (tMA X.K l W nilD fun _ => .ok ()) := ⟨fun pos pins s σ H Q I ⟨S, t, P, c, E, q⟩ => (pa_nil).run pos pins s σ H Q I (q [] S H (.refl c.sub) .nil)⟩
theorem PA.imp {es : List Expr} {t t' : TA} (h : PA X es t) (k : ∀ σ H Q, t' σ H Q → t σ H Q) : PA X es t' := ⟨fun pos pins s σ H Q I z => h.run pos pins s σ H Q I (k σ H Q z)⟩
theorem ma_cons {es : List Expr} {eb : β → List D} (ha : PE X e (tME X.K l W ea f)) (hb : PA X es (tMA X.K l W eb g)) (hs : starEach (e :: es) X.env = (false, eval e X.env) :: starEach es X.env := by rfl) : PA X (e :: es) (tMA X.K l W (consD ea eb) (op2 (fun a b => .ok (a, b)) f g)) := PA.imp (pa_cons ha hb hs) fun σ H Q ⟨S, t, P, c, E, q⟩ =>
  ⟨S, t, P, c, E, q.bind.imp (fun a q v S1 H1 g1 r1 => ⟨S1, t, P, c.grow g1, E.grow g1, q.bind.imp (fun b q vs S2 H2 g2 r2 => q (v :: vs) S2 H2 (g1.trans g2) (Rep.joinE (r1.grow g2) r2)) fun _ z => exq_grow z g1⟩) fun _ z => z⟩
theorem mab_nil : PA X [] (tMAB X.K l W nilD fun _ => .ok ()) := ⟨fun pos pins s σ H Q I ⟨S, t, P, c, E, q⟩ => (pa_nil).run pos pins s σ H Q I (q [] S H (.refl c.sub) .nil)⟩
theorem RepB.grow {τ : TL} {K : PySem.W.Frag} {S S' : Sh} {H H' : Hp} {P : FP} {vs : List V} {ds : List D} (r : RepB K S H P vs ds) (g : Grow τ S H S' H') : RepB K S' H' P vs ds := by
  induction r with
  | nil => exact .nil
  | cons h f k _ ih => exact .cons (h.grow g) f k ih
theorem mab_cons {es : List Expr} {eb : β → List D} (ha : PE X e (tMB X.K l W ea f)) (hb : PA X es (tMAB X.K l W eb g)) (hs : starEach (e :: es) X.env = (false, eval e X.env) :: starEach es X.env := by rfl) : PA X (e :: es) (tMAB X.K l W (consD ea eb) (op2 (fun a b => .ok (a, b)) f g)) := PA.imp (pa_cons ha hb hs) fun σ H Q ⟨S, t, P, c, E, q⟩ =>
  ⟨S, t, P, c, E, q.bind.imp (fun a q v S1 H1 P1 g1 r1 f1 k1 => ⟨S1, t, P, c.grow g1, E.grow g1, q.bind.imp (fun b q vs S2 H2 g2 r2 => q (v :: vs) S2 H2 (g1.trans g2) (.cons (r1.grow g2) f1 k1 r2)) fun _ z => exq_grow z g1⟩) fun _ z => z⟩
end
end M

namespace M
open Enc (enc)
open PySem PySem.Spec PyProof.Rows L2 W
/-! ### statements -/
structure Grw (τ : TL) (S : Sh) (H : Hp) (P : FP) (S' : Sh) (H' : Hp) (P' : FP) : Prop where
  s : SL S S'
  mu : τ.w = false → S'.mu = S.mu
  cfg : Cfg τ S' H' P'
  keep : ∀ x o, ¬ P x → NT o → H x = some o → H' x = some o
  fp : ∀ x, P' x → P x ∨ H x = none
  new : ∀ x o, S' x = some o → (∃ u, S x = some u) ∨ P x ∨ H x = none
  free : ∀ x, H' x = none → P x ∨ H x = none
section
variable {τ : TL} {S S1 S2 : Sh} {H H1 H2 : Hp} {P P1 P2 : FP}
theorem Grw.refl (c : Cfg τ S H P) : Grw τ S H P S H P := ⟨SL.refl S, fun _ => rfl, c, fun _ _ _ _ e => e, fun _ z => .inl z, fun _ o e => .inl ⟨o, e⟩, fun _ e => .inr e⟩
theorem Grw.trans (a : Grw τ S H P S1 H1 P1) (b : Grw τ S1 H1 P1 S2 H2 P2) : Grw τ S H P S2 H2 P2 := by
  refine ⟨a.s.trans b.s, fun z => (b.mu z).trans (a.mu z), b.cfg, fun x o n m e => ?_, fun x z => ?_, fun x o e => ?_, fun x e => ?_⟩
  · refine b.keep x o (fun z => ?_) m (a.keep x o n m e)
    rcases a.fp x z with z | z
    · exact n z
    · rw [e] at z
      cases z
  · rcases b.fp x z with z | z
    · exact a.fp x z
    · exact a.free x z
  · rcases b.new x o e with ⟨u, z⟩ | z | z
    · exact a.new x u z
    · exact .inr (a.fp x z)
    · exact .inr (a.free x z)
  · rcases b.free x e with z | z
    · exact a.fp x z
    · exact a.free x z
theorem Grow.grw (g : Grow τ S H S1 H1) (c : Cfg τ S H P) : Grw τ S H P S1 H1 P := ⟨g.s, fun _ => g.mu, c.grow g, fun x o _ n e => g.h.at_ x o n e, fun _ z => .inl z, fun x o e => (g.new x o e).elim .inl fun z => .inr (.inr z), fun _ e => .inr (g.h.free e)⟩
/-- what is owned is written -/
theorem Grw.upd {p : Addr} {o o' : HO} (c : Cfg τ S H P) (hp : P p) (h : H p = some o) (d : DO o) : Grw τ S H P S (upd H p o') P := by
  have ne : ∀ x, ¬ P x → x ≠ p := fun x n e => n (e ▸ hp)
  refine ⟨SL.refl S, fun _ => rfl, ⟨⟨fun x u z => ?_, c.sub.nt, tabs_upd c.sub.tb h d⟩, c.sep, fun x hx => ?_⟩, fun x u n _ e => by rw [upd_ne (ne x n)]; exact e, fun x z => .inl z, fun x u e => .inl ⟨u, e⟩, fun x e => ?_⟩
  · have ne : x ≠ p := fun e => by
      rw [e, c.sep p hp] at z
      cases z
    rw [upd_ne ne]
    exact c.sub _ _ z
  · by_cases e : x = p
    · exact ⟨_, by rw [e]; exact upd_same⟩
    · obtain ⟨u, hu⟩ := c.inh x hx
      exact ⟨u, by rw [upd_ne e]; exact hu⟩
  · by_cases z : x = p
    · exact .inl (z ▸ hp)
    · rw [upd_ne z] at e
      exact .inr e
/-- part of what is owned is let go -/
theorem Grw.less (g : Grw τ S H P S1 H1 P1) (h : ∀ x, P2 x → P1 x) : Grw τ S H P S1 H1 P2 := ⟨g.s, g.mu, g.cfg.mono h, g.keep, fun x z => g.fp x (h x z), g.new, g.free⟩
end
section
variable {T R : Type} (K : PySem.W.Frag) (l : Lay T) (n : Nat) (W : WX) (mr : Md) (er : R → D)
def OQ (S : Sh) (H : Hp) (P : FP) (D : Ends) : Out T R → Prop
  | .nx t => ∀ σ S' H' P', Grw l.tabs S H P S' H' P' → Env K S' H' σ l t P' → σ.length = n → D.nx σ H'
  | .bk t => ∀ σ S' H' P', Grw l.tabs S H P S' H' P' → Env K S' H' σ l t P' → σ.length = n → D.bk σ H'
  | .ct t => ∀ σ S' H' P', Grw l.tabs S H P S' H' P' → Env K S' H' σ l t P' → σ.length = n → D.ct σ H'
  | .rt r t => ∀ v σ S' H' P' Pr, Grw l.tabs S H P S' H' (fun x => P' x ∨ Pr x) → Env K S' H' σ l t P' → Rp K S' H' v (er r) Pr → mr.ok v Pr → Disj P' Pr → D.rt v H'
  | .ex e t => ∀ cls d σ S' H' P', Grw l.tabs S H P S' H' P' → Env K S' H' σ l t P' → σ.length = n → ExRel K e cls d S' → W cls d σ H'
  | .stuck => False
def tMS (F : T → Out T R) : TS := fun D σ H => ∃ S t P, Cfg l.tabs S H P ∧ Env K S H σ l t P ∧ σ.length = n ∧ OQ K l n W mr er S H P D (F t)
def tMG (us : List Nat) {α : Type} (ea : α → D) (p : T → α → T) : TG := fun v σ H Q => ∃ S t P a, Cfg l.tabs S H P ∧ Env K S H σ l t P ∧ σ.length = n ∧ Rp K S H v (ea a) Emp ∧ ∀ σ' P', Env K S H σ' l (p t a) P' → (∀ x, P' x → P x) → σ'.length = n → wipe σ' us = wipe σ us → Q σ' H
/-- several targets, of several values -/
def tMGs (us : List Nat) {α : Type} (ea : α → List D) (p : T → α → T) : TGs := fun vs σ H Q => ∃ S t P a, Cfg l.tabs S H P ∧ Env K S H σ l t P ∧ σ.length = n ∧ Rep K S H vs (ea a) Emp ∧ ∀ σ' P', Env K S H σ' l (p t a) P' → (∀ x, P' x → P x) → σ'.length = n → wipe σ' us = wipe σ us → Q σ' H
end
section
variable {X : Cx} {T R α β γ : Type} {l : Lay T} {n : Nat} {W : WX} {mr : Md} {er : R → D} {e e1 e2 : Expr} {ea : α → D} {eb : β → D} {f : T → Res α} {g : T → Res β} {pos : Pos} {st : Stmt} {sts : List Stmt} {F G : T → Out T R} {Z : Ends} {S S' : Sh} {H H' : Hp} {P P' : FP} {σ : L2.St} {us : List Nat}
theorem OQ.trans {o : Out T R} (q : OQ X.K l n W mr er S H P Z o) (gr : Grw l.tabs S H P S' H' P') : OQ X.K l n W mr er S' H' P' Z o := by
  cases o with
  | nx t => exact fun σ S2 H2 P2 g2 E hl => q σ S2 H2 P2 (gr.trans g2) E hl
  | bk t => exact fun σ S2 H2 P2 g2 E hl => q σ S2 H2 P2 (gr.trans g2) E hl
  | ct t => exact fun σ S2 H2 P2 g2 E hl => q σ S2 H2 P2 (gr.trans g2) E hl
  | rt r t => exact fun v σ S2 H2 P2 Pr g2 E => q v σ S2 H2 P2 Pr (gr.trans g2) E
  | ex e t => exact fun cls d σ S2 H2 P2 g2 E hl => q cls d σ S2 H2 P2 (gr.trans g2) E hl
  | stuck => exact q
/-- another end for what comes next -/
theorem OQ.ends {D' : Ends} {o : Out T R} (q : OQ X.K l n W mr er S H P Z o) (h1 : ∀ σ H, Z.nx σ H → D'.nx σ H) (h2 : ∀ v H, Z.rt v H → D'.rt v H) (h3 : ∀ σ H, Z.bk σ H → D'.bk σ H) (h4 : ∀ σ H, Z.ct σ H → D'.ct σ H) : OQ X.K l n W mr er S H P D' o := by
  cases o with
  | nx t => exact fun σ S2 H2 P2 g2 E hl => h1 _ _ (q σ S2 H2 P2 g2 E hl)
  | bk t => exact fun σ S2 H2 P2 g2 E hl => h3 _ _ (q σ S2 H2 P2 g2 E hl)
  | ct t => exact fun σ S2 H2 P2 g2 E hl => h4 _ _ (q σ S2 H2 P2 g2 E hl)
  | rt r t => exact fun v σ S2 H2 P2 Pr g2 E r o d => h2 _ _ (q v σ S2 H2 P2 Pr g2 E r o d)
  | ex e t => exact q
  | stuck => exact q
theorem ex_of (c : Cfg l.tabs S H P) {t : T} (E : Env X.K S H σ l t P) (hl : σ.length = n) {x : Exn} (q : OQ X.K l n W mr er S H P Z (.ex x t : Out T R)) : ExQ X.K l.tabs W S H σ x := fun S' H' cls d g r => q cls d σ S' H' P (g.grw c) (E.grow g) hl r
theorem andS_q {k : α → T → Out T R} {t : T} {ok : α → Prop} (c : Cfg l.tabs S H P) (E : Env X.K S H σ l t P) (hl : σ.length = n) (q : OQ X.K l n W mr er S H P Z (andS f k t)) (h : ∀ a, OQ X.K l n W mr er S H P Z (k a t) → ok a) : RQ (f t) ok (ExQ X.K l.tabs W S H σ) := by
  unfold andS at q
  cases e : f t with
  | ok a => rw [e] at q; exact h a q
  | ex x => rw [e] at q; exact ex_of c E hl q
  | stuck => rw [e] at q; exact q
theorem PSs.imp {t t' : TS} (h : PSs X sts t) (k : ∀ D σ H, t' D σ H → t D σ H) : PSs X sts t' := ⟨fun pins s σ H D I z => h.run pins s σ H D I (k D σ H z)⟩
theorem PG.imp {tg : Expr} {t t' : TG} (h : PG X tg t) (k : ∀ v σ H Q, t' v σ H Q → t v σ H Q) : PG X tg t' := ⟨fun pins s σ H v u Q I r z => h.run pins s σ H v u Q I r (k v σ H Q z)⟩
theorem PGs.imp {tg : List Expr} {t t' : TGs} (h : PGs X tg t) (k : ∀ v σ H Q, t' v σ H Q → t v σ H Q) : PGs X tg t' := ⟨fun pins s σ H v u Q I r z => h.run pins s σ H v u Q I r (k v σ H Q z)⟩
abbrev MS (X : Cx) (l : Lay T) (n : Nat) (W : WX) (mr : Md) (er : R → D) (st : Stmt) (F : T → Out T R) : Prop := PS X st (tMS X.K l n W mr er F)
abbrev MSs (X : Cx) (l : Lay T) (n : Nat) (W : WX) (mr : Md) (er : R → D) (st : List Stmt) (F : T → Out T R) : Prop := PSs X st (tMS X.K l n W mr er F)
theorem mss_nil : MSs X l n W mr er [] skipS := PSs.imp pss_nil fun D σ H ⟨S, t, P, c, E, hl, q⟩ => q σ S H P (.refl c) E hl
theorem mss_cons (h1 : MS X l n W mr er st F) (h2 : MSs X l n W mr er sts G) : MSs X l n W mr er (st :: sts) (seqS F G) := PSs.imp (pss_cons h1 h2) fun D σ H ⟨S, t, P, c, E, hl, q⟩ => ⟨S, t, P, c, E, hl, by
  unfold seqS at q
  cases e : F t with
  | nx t' => rw [e] at q; exact fun σ' S' H' P' g E' hl' => ⟨S', t', P', g.cfg, E', hl', OQ.trans q g⟩
  | rt r t' => rw [e] at q; exact q
  | bk t' => rw [e] at q; exact q
  | ct t' => rw [e] at q; exact q
  | ex x t' => rw [e] at q; exact q
  | stuck => rw [e] at q; exact q⟩
theorem mss_one (h : MS X l n W mr er st F) : MSs X l n W mr er [st] F := pss_one h
/-- a plain step on the state ahead -/
theorem mss_pre {p : T → T} (h : MSs X l n W mr er sts F) (k : Fgt l p) : MSs X l n W mr er sts (preS p F) := PSs.imp h fun D σ H ⟨S, t, P, c, E, hl, q⟩ => by
  obtain ⟨P', E', k⟩ := k.fgt E
  exact ⟨S, p t, P', c.mono k, E', hl, OQ.trans q ((Grw.refl c).less k)⟩
theorem ms_pass : MS X l n W mr er (.Pass pos) skipS := PS.imp ps_pass fun D σ H ⟨S, t, P, c, E, hl, q⟩ => q σ S H P (.refl c) E hl
theorem ms_break : MS X l n W mr er (.Break pos) brkS := PS.imp ps_break fun D σ H ⟨S, t, P, c, E, hl, q⟩ => q σ S H P (.refl c) E hl
theorem ms_continue : MS X l n W mr er (.Continue pos) cntS := PS.imp ps_continue fun D σ H ⟨S, t, P, c, E, hl, q⟩ => q σ S H P (.refl c) E hl
theorem ms_drop (he : PE X e (tME X.K l W ea f)) (hs : swapsWith e none pos.line X.env = pure false := by rfl) : MS X l n W mr er (.Expr e pos) (dropS f) := PS.imp (ps_expr he hs) fun D σ H ⟨S, t, P, c, E, hl, q⟩ =>
  ⟨S, t, P, c, E, andS_q c E hl q fun a q v S' H' g r => q σ S' H' P (g.grw c) (E.grow g) hl⟩
theorem ms_ret {f : T → Res R} (he : PE X e (tME X.K l W er f)) : MS X l n W .sh er (.Return (some e) pos) (retS f) := PS.imp (ps_ret he) fun D σ H ⟨S, t, P, c, E, hl, q⟩ =>
  ⟨S, t, P, c, E, andS_q c E hl q fun a q v S' H' g r => q v σ S' H' P Emp ((g.grw c).less fun x z => z.elim id False.elim) (E.grow g) r rfl fun _ _ z => z⟩
theorem ms_retO {f : T → Res R} (he : PE X e (tMO X.K l W mr er f)) : MS X l n W mr er (.Return (some e) pos) (retS f) := PS.imp (ps_ret he) fun D σ H ⟨S, t, P, c, E, hl, q⟩ =>
  ⟨S, t, P, c, E, andS_q c E hl q fun a q v S' H' P1 g r o nw => q v σ S' H' P P1 ⟨g.s, fun _ => g.mu, ⟨g.sub, fun x z => z.elim ((c.grow g).sep x) fun z => (nw x z).2, fun x z => z.elim ((c.grow g).inh x) (r.inH x)⟩, fun x o _ n z => g.h.at_ x o n z, fun x z => z.elim .inl fun z => .inr (nw x z).1, fun x o z => (g.new x o z).elim .inl fun z => .inr (.inr z), fun _ e => .inr (g.h.free e)⟩ (E.grow g) r o
    fun x z y => by
      obtain ⟨o, h⟩ := c.inh x z
      rw [(nw x y).1] at h
      cases h⟩
/-- a name that is owned is handed back -/
theorem ms_retT {i : Nat} {get : T → Option R} {p : T → Option R → T} (hv : PE X e (tVar i)) (k : Tak l i mr er get p) : MS X l n W mr er (.Return (some e) pos) (retTF get p) := PS.imp (ps_ret hv) fun D σ H ⟨S, t, P, c, E, hl, q⟩ => by
  unfold retTF at q
  cases e : get t with
  | none =>
    simp only [e] at q
    exact q.elim
  | some a =>
    simp only [e] at q
    obtain ⟨v, P1, P2, hs, r, o, E2, dj, rfl⟩ := k.tak E e
    exact ⟨v, hs, q v σ S H P2 P1 ((Grw.refl c).less fun x z => z.symm) E2 r o fun x z y => dj x y z⟩
theorem ms_retN : MS X l n W .sh (Enc.enc : Unit → D) (.Return none pos) (fun t => .rt () t) := PS.imp ps_retN fun D σ H ⟨S, t, P, c, E, hl, q⟩ => q .non σ S H P Emp ((Grw.refl c).less fun x z => z.elim id False.elim) E (Rep.non .nil) rfl fun _ _ z => z
theorem ms_if {b : T → Res Bool} {c : Expr} {s1 s2 : List Stmt} (hc : PT X c (tMT X.K l W b)) (h1 : MSs X l n W mr er s1 F) (h2 : MSs X l n W mr er s2 G) : MS X l n W mr er (.If c s1 s2 pos) (ifS b F G) := PS.imp (ps_if hc h1 h2) fun D σ H ⟨S, t, P, c, E, hl, q⟩ =>
  ⟨S, t, P, c, E, andS_q c E hl q fun a q S' H' g => by
    cases a with
    | true =>
      rw [if_pos rfl]
      exact ⟨S', t, P, c.grow g, E.grow g, hl, OQ.trans q (g.grw c)⟩
    | false =>
      rw [if_neg (by decide)]
      exact ⟨S', t, P, c.grow g, E.grow g, hl, OQ.trans q (g.grw c)⟩⟩
/-! targets -/
theorem wipe_get {σ : L2.St} : ∀ (us : List Nat) (j : Nat), (wipe σ us)[j]? = if j ∈ us then σ[j]?.map (fun _ => none) else σ[j]?
  | [], j => by simp [wipe]
  | u :: us, j => by
    unfold wipe
    by_cases h : u = j
    · subst h
      by_cases hl : u < (wipe σ us).length
      · rw [List.getElem?_set_self hl]
        rw [wipe_length] at hl
        simp [List.getElem?_eq_getElem hl]
      · rw [List.getElem?_eq_none (by rw [List.length_set]; omega)]
        rw [wipe_length] at hl
        simp [List.getElem?_eq_none (by omega : σ.length ≤ u)]
    · rw [List.getElem?_set_ne h, wipe_get us j]
      simp [Ne.symm h]
theorem wipe_set {σ : L2.St} {us : List Nat} {i : Nat} {o : Option V} (h : i ∈ us) : wipe (σ.set i o) us = wipe σ us := by
  apply List.ext_getElem?
  intro j
  rw [wipe_get, wipe_get]
  by_cases hj : j ∈ us
  · rw [if_pos hj, if_pos hj]
    by_cases e : i = j
    · subst e
      by_cases hl : i < σ.length
      · rw [List.getElem?_set_self hl, List.getElem?_eq_getElem hl] <;> rfl
      · rw [List.getElem?_eq_none (by rw [List.length_set]; omega), List.getElem?_eq_none (by omega)]
    · rw [List.getElem?_set_ne e]
  · rw [if_neg hj, if_neg hj, List.getElem?_set_ne (fun (e : i = j) => hj (by rw [← e]; exact h))]
theorem mg_name {i : Nat} {m : Md} {tg : Expr} {p : T → α → T} (hg : PG X tg (gName i)) (k : Put l i m ea p) (hi : decide (i < n) = true := by rfl) (hm : ∀ v, m.ok v Emp := by first | exact fun _ => rfl | exact fun _ => trivial) (hu : decide (i ∈ us) = true := by decide) : PG X tg (tMG X.K l n us ea p) := PG.imp hg fun v σ H Q ⟨S, t, P, a, c, E, hl, r, q⟩ => by
  obtain ⟨P', E', h⟩ := k.put E (by rw [hl]; exact of_decide_eq_true hi) r (hm v) fun _ z => z.elim
  exact q _ P' E' (fun x z => (h x z).elim id False.elim) (by rw [List.length_set]; exact hl) (wipe_set (of_decide_eq_true hu))
theorem mgs_nil : PGs X [] (tMGs X.K l n us nilD putN) := PGs.imp pgs_nil fun vs σ H Q ⟨S, t, P, a, c, E, hl, r, q⟩ => ⟨(Rep.nilP r).1, q σ P E (fun _ z => z) hl rfl⟩
theorem mgs_cons {tg : Expr} {tgs : List Expr} {eb : β → List D} {p : T → α → T} {p2 : T → β → T} (h1 : PG X tg (tMG X.K l n us ea p)) (h2 : PGs X tgs (tMGs X.K l n us eb p2)) (hs : (assignEach (tg :: tgs) X.env).map (·.2) = assign tg X.env :: (assignEach tgs X.env).map (·.2) := by rfl) :
    PGs X (tg :: tgs) (tMGs X.K l n us (consD ea eb) (putC p p2)) := PGs.imp (pgs_cons h1 h2 hs) fun vs σ H Q ⟨S, t, P, a, c, E, hl, r, q⟩ => by
  obtain ⟨v, us, rfl, r1, r2⟩ := r.splitE
  exact ⟨v, us, rfl, S, t, P, a.1, c, E, hl, r1, fun σ' P' E' k hl' w1 => ⟨S, p t a.1, P', a.2, c.mono k, E', hl', r2, fun σ2 P2 E2 k2 hl2 w2 => q σ2 P2 E2 (fun x z => k x (k2 x z)) hl2 (w2.trans w1)⟩⟩
theorem mg_tup {tgs : List Expr} {k : Nat} {m : Nat} {eb : β → List D} {p : T → β → T} {fb : α → β} (hc : X.calm = true) (h : PGs X tgs (tMGs X.K l n us eb p)) (he : ∀ a, ea a = .tup (eb (fb a))) (hm : ∀ b, (eb b).length = m) (hn : (assignEach tgs X.env).length = m := by rfl) (hst : (assignEach tgs X.env).findIdx? (·.1) = none := by rfl) :
    PG X (.Tuple tgs k pos) (tMG X.K l n us ea (putB p fb)) := PG.imp (pg_tup hc h hn hst) fun v σ H Q ⟨S, t, P, a, c, E, hl, r, q⟩ => by
  rw [he] at r
  obtain ⟨x, ws, rfl, hs, r2, _⟩ := Rp.tup r
  exact ⟨x, ws, rfl, W.Same.seqT c.sub hs, by rw [r2.len]; exact hm _, S, t, P, fb a, c, E, hl, r2, q⟩
theorem ms_asgG {tg : Expr} {p : T → α → T} (he : PE X e (tME X.K l W ea f)) (hg : PG X tg (tMG X.K l n us ea p)) (hs : swapsWithSole [tg] e pos.line X.env = pure false := by rfl) (hw : swappedStores [tg] e X.env = pure none := by rfl)
    (h1 : (assignEach [tg] X.env).map (·.2) = [assign tg X.env] := by rfl) : MS X l n W mr er (.Assign [tg] e pos) (asgS f p) := PS.imp (ps_asg he hg hs hw h1) fun D σ H ⟨S, t, P, c, E, hl, q⟩ =>
  ⟨S, t, P, c, E, andS_q c E hl q fun a q v S' H' g r => ⟨S', t, P, a, c.grow g, E.grow g, hl, r, fun σ' P' E' k hl' _ => q σ' S' H' P' ((g.grw c).less k) E' hl'⟩⟩
/-- x = e -/
theorem ms_set (i : Nat) {m : Md} {x : Str} {p : T → α → T} {pos' : Pos} (he : PE X e (tMO X.K l W m ea f)) (hN : X.N.Nodup) (hi : X.N[i]? = some x) (hx : Loc X.env.scope x) (k : Put l i m ea p) (hin : decide (i < n) = true := by rfl) (hs : swapsWith e (some (.Name x pos')) pos.line X.env = pure false := by rfl)
    (hf : X.fn x = true ∨ X.env.scope.names.lookup x = some .local := by first | exact .inl rfl | exact .inr rfl | assumption) : MS X l n W mr er (.Assign [.Name x pos'] e pos) (asgS f p) := PS.imp (L2.ps_set hN hi hx he hs hf) fun D σ H ⟨S, t, P, c, E, hl, q⟩ =>
  ⟨S, t, P, c, E, andS_q c E hl q fun a q v S' H' P1 g r o nw => by
    obtain ⟨P', E', k⟩ := k.put (E.grow g) (by rw [hl]; exact of_decide_eq_true hin) r o fun x z y => by
      obtain ⟨o, h⟩ := c.inh x y
      rw [(nw x z).1] at h
      cases h
    refine q _ S' H' P' ?_ E' (by rw [List.length_set]; exact hl)
    exact ⟨g.s, fun _ => g.mu, ⟨g.sub, fun x z => (k x z).elim ((c.grow g).sep x) fun z => (nw x z).2, E'.inH⟩, fun x o _ n z => g.h.at_ x o n z, fun x z => (k x z).elim .inl fun z => .inr (nw x z).1, fun x o z => (g.new x o z).elim .inl fun z => .inr (.inr z), fun _ e => .inr (g.h.free e)⟩⟩
/-! loops -/
theorem ms_for {tg iter : Expr} {p : T → α → T} {body : List Stmt} {f : T → Res (List α)} {en : List α → D} (hen : ∀ xs, en xs = .lst (xs.map ea)) (hp : PassesOwn (model X.prog X.w) X.A X.env X.xe) (hc : X.calm = true) (he : PE X iter (tME X.K l W en f)) (hg : PG X tg (tMG X.K l n us ea p)) (hb : MSs X l n W mr er body F) (hfs : ∀ x, foldedSetIterable iter X.env x = pure x := by intro _; rfl) :
    MS X l n W mr er (.For tg iter body [] pos) (forS f p F) := PS.imp (ps_for hp hc (pi_list he) hg hb hfs) fun D σ H ⟨S, t, P, c, E, hl, q⟩ =>
  ⟨S, t, P, c, E, andS_q c E hl q fun xs q v S1 H1 g r => by
    rw [hen] at r
    obtain ⟨a, ws, P1, rfl, hs1, r1, _, ⟨hs, rfl⟩ | ⟨hp, _⟩⟩ := Rp.lst g.sub r
    case inr => exact hp.elim
    have hlen : ws.length = xs.length := by rw [r1.len, List.length_map]
    refine ⟨a, rfl, ⟨ws, SqL.of hs1⟩, for_list (K := X.K) (a := a) (xs := ws) (fun i σ' H' => ∃ S' t' P', Grw l.tabs S1 H1 P S' H' P' ∧ Env X.K S' H' σ' l t' P' ∧ σ'.length = n ∧ OQ X.K l n W mr er S' H' P' D (loopL p F (xs.drop i) t'))
      ⟨S1, t, P, .refl (c.grow g), E.grow g, hl, OQ.trans q (g.grw c)⟩ (fun i σ' H' _ ⟨S', t', P', g', _⟩ => SqL.of (g'.cfg.sub _ _ (g'.s _ _ hs))) ?_ ?_⟩
    · rintro i x σ' H' hx ⟨S', t', P', g', E', hl', q'⟩
      have hi : i < xs.length := by
        obtain ⟨z, _⟩ := List.getElem?_eq_some_iff.mp hx
        omega
      rw [List.drop_eq_getElem_cons hi] at q'
      obtain ⟨w, ew, rw'⟩ := Rep.getE r1 (i := i) (d := ea xs[i]) (by rw [List.getElem?_map, List.getElem?_eq_getElem hi]; rfl)
      rw [hx] at ew
      cases ew
      have rx : Rp X.K S' H' x (ea xs[i]) Emp := rw'.frame g'.s fun _ _ z => z.elim
      refine ⟨S', t', P', xs[i], g'.cfg, E', hl', rx, fun σ2 P2 E2 k2 hl2 _ => ⟨S', _, P2, g'.cfg.mono k2, E2, hl2, ?_⟩⟩
      have g2 : Grw l.tabs S' H' P' S' H' P2 := (Grw.refl g'.cfg).less k2
      unfold loopL at q'
      cases e : F (p t' xs[i]) with
      | nx t3 => rw [e] at q'; exact fun σ3 S3 H3 P3 g3 E3 hl3 => ⟨S3, t3, P3, g'.trans (g2.trans g3), E3, hl3, OQ.trans q' (g2.trans g3)⟩
      | ct t3 => rw [e] at q'; exact fun σ3 S3 H3 P3 g3 E3 hl3 => ⟨S3, t3, P3, g'.trans (g2.trans g3), E3, hl3, OQ.trans q' (g2.trans g3)⟩
      | bk t3 => rw [e] at q'; exact fun σ3 S3 H3 P3 g3 E3 hl3 => q' σ3 S3 H3 P3 (g2.trans g3) E3 hl3
      | rt r t3 => rw [e] at q'; exact fun v σ3 S3 H3 P3 Pr g3 => q' v σ3 S3 H3 P3 Pr (g2.trans g3)
      | ex x t3 => rw [e] at q'; exact fun cls d σ3 S3 H3 P3 g3 => q' cls d σ3 S3 H3 P3 (g2.trans g3)
      | stuck => rw [e] at q'; exact q'
    · rintro σ' H' ⟨S', t', P', g', E', hl', q'⟩
      rw [hlen, List.drop_length] at q'
      exact q' σ' S' H' P' (.refl g'.cfg) E' hl'⟩
theorem ms_while {c : Expr} {b : T → Res Bool} {body : List Stmt} (hp : PassesOwn (model X.prog X.w) X.A X.env X.xe) (hc : PT X c (tMT X.K l W b)) (hb : MSs X l n W mr er body F) : MS X l n W mr er (.While c body [] pos) (whileS b F) := PS.imp (ps_while hp hc hb) fun D σ H ⟨S, t, P, c, E, hl, q⟩ => by
  have hne : whileS b F t ≠ .stuck := fun z => by
    rw [z] at q
    exact q
  obtain ⟨m, hm⟩ := whileS_ex hne
  rw [← hm] at q
  refine ⟨fun m σ' H' => ∃ S' t' P', Grw l.tabs S H P S' H' P' ∧ Env X.K S' H' σ' l t' P' ∧ σ'.length = n ∧ OQ X.K l n W mr er S' H' P' D (loopW b F m t'), ⟨m, S, t, P, .refl c, E, hl, q⟩, ?_⟩
  rintro m σ' H' ⟨S', t', P', g', E', hl', q'⟩
  cases m with
  | zero => exact q'.elim
  | succ m =>
    refine ⟨S', t', P', g'.cfg, E', ?_⟩
    unfold loopW at q'
    cases e : b t' with
    | stuck => rw [e] at q'; exact q'
    | ex x => rw [e] at q'; exact ex_of g'.cfg E' hl' q'
    | ok k =>
      rw [e] at q'
      cases k with
      | false =>
        intro S2 H2 g2
        rw [if_neg (by decide)]
        exact q' σ' S2 H2 P' (g2.grw g'.cfg) (E'.grow g2) hl'
      | true =>
        intro S2 H2 g2
        rw [if_pos rfl]
        refine ⟨fun σ3 H3 => ∃ S3 t3 P3, Grw l.tabs S H P S3 H3 P3 ∧ Env X.K S3 H3 σ3 l t3 P3 ∧ σ3.length = n ∧ OQ X.K l n W mr er S3 H3 P3 D (loopW b F m t3), fun σ3 H3 z => ⟨m, Nat.lt_succ_self m, z⟩, ?_⟩
        have gg := g2.grw g'.cfg
        refine ⟨S2, t', P', gg.cfg, E'.grow g2, hl', ?_⟩
        dsimp only at q'
        cases e2 : F t' with
        | nx t3 => rw [e2] at q'; exact fun σ3 S3 H3 P3 g3 E3 hl3 => ⟨S3, t3, P3, g'.trans (gg.trans g3), E3, hl3, OQ.trans q' (gg.trans g3)⟩
        | ct t3 => rw [e2] at q'; exact fun σ3 S3 H3 P3 g3 E3 hl3 => ⟨S3, t3, P3, g'.trans (gg.trans g3), E3, hl3, OQ.trans q' (gg.trans g3)⟩
        | bk t3 => rw [e2] at q'; exact fun σ3 S3 H3 P3 g3 E3 hl3 => q' σ3 S3 H3 P3 (gg.trans g3) E3 hl3
        | rt r t3 => rw [e2] at q'; exact fun v σ3 S3 H3 P3 Pr g3 => q' v σ3 S3 H3 P3 Pr (gg.trans g3)
        | ex x t3 => rw [e2] at q'; exact fun cls d σ3 S3 H3 P3 g3 => q' cls d σ3 S3 H3 P3 (gg.trans g3)
        | stuck => rw [e2] at q'; exact q'
end
end M

namespace M
open Enc (enc)
open PySem PySem.Spec PyProof.Rows L2 W
/-! ### data that are compared -/
mutual
def toPy : D → PyData
  | .non => .none
  | .bl b => .bool b
  | .int i => .int i
  | .str s => .str s
  | .lst xs => .list (toPys xs)
  | .scr xs => .list (toPys xs)
  | .tup xs => .tuple (toPys xs)
  | _ => .none
def toPys : List D → List PyData
  | [] => []
  | d :: ds => toPy d :: toPys ds
end
/-- data of None, truths, numbers, texts, lists, tuples; how deep at most -/
inductive PD : Nat → List D → Prop
  | nil {n : Nat} : PD n []
  | non {n : Nat} {ds : List D} : PD n ds → PD n (.non :: ds)
  | bl {n : Nat} {b : Bool} {ds : List D} : PD n ds → PD n (.bl b :: ds)
  | int {n : Nat} {i : Int} {ds : List D} : PD n ds → PD n (.int i :: ds)
  | str {n : Nat} {s : Str} {ds : List D} : PD n ds → PD n (.str s :: ds)
  | lst {n : Nat} {es ds : List D} : PD n es → PD (n + 1) ds → PD (n + 1) (.lst es :: ds)
  | scr {n : Nat} {es ds : List D} : PD n es → PD (n + 1) ds → PD (n + 1) (.scr es :: ds)
  | tup {n : Nat} {es ds : List D} : PD n es → PD (n + 1) ds → PD (n + 1) (.tup es :: ds)
theorem PD.up {n m : Nat} {ds : List D} (h : PD n ds) : n ≤ m → PD m ds := by
  induction h generalizing m with
  | nil => exact fun _ => .nil
  | non _ ih => exact fun l => .non (ih l)
  | bl _ ih => exact fun l => .bl (ih l)
  | int _ ih => exact fun l => .int (ih l)
  | str _ ih => exact fun l => .str (ih l)
  | lst _ _ i1 i2 =>
    intro l
    obtain ⟨k, rfl⟩ : ∃ k, m = k + 1 := ⟨m - 1, by omega⟩
    exact .lst (i1 (by omega)) (i2 l)
  | scr _ _ i1 i2 =>
    intro l
    obtain ⟨k, rfl⟩ : ∃ k, m = k + 1 := ⟨m - 1, by omega⟩
    exact .scr (i1 (by omega)) (i2 l)
  | tup _ _ i1 i2 =>
    intro l
    obtain ⟨k, rfl⟩ : ∃ k, m = k + 1 := ⟨m - 1, by omega⟩
    exact .tup (i1 (by omega)) (i2 l)
section
variable {K : PySem.W.Frag} {S : Sh} {H : Hp} {vs : List V} {ds : List D} {P : FP}
theorem Rep.dp (s : Same S H) (r : Rep K S H vs ds P) : ∀ {n : Nat}, PD n ds → DpAll K H vs (toPys ds) ∧ PyData.canLayAll0 (toPys ds) = true ∧ PyData.depthAll (toPys ds) ≤ n := by
  induction r with
  | nil => exact fun _ => ⟨.nil, rfl, Nat.zero_le _⟩
  | non _ ih => intro n h; cases h with | non h => exact ⟨.cons .non (ih h).1, by simp [toPys, toPy, PyData.canLayAll0, PyData.canLay0, (ih h).2.1], by simp [toPys, toPy, PyData.depthAll, PyData.depth, (ih h).2.2]⟩
  | bl b _ ih => intro n h; cases h with | bl h => exact ⟨.cons (.bl b) (ih h).1, by simp [toPys, toPy, PyData.canLayAll0, PyData.canLay0, (ih h).2.1], by simp [toPys, toPy, PyData.depthAll, PyData.depth, (ih h).2.2]⟩
  | int b _ ih => intro n h; cases h with | int h => exact ⟨.cons (.int b) (ih h).1, by simp [toPys, toPy, PyData.canLayAll0, PyData.canLay0, (ih h).2.1], by simp [toPys, toPy, PyData.depthAll, PyData.depth, (ih h).2.2]⟩
  | str b o _ ih => intro n h; cases h with | str h => exact ⟨.cons (.str b) (ih h).1, by simp [toPys, toPy, PyData.canLayAll0, PyData.canLay0, (ih h).2.1, o], by simp [toPys, toPy, PyData.depthAll, PyData.depth, (ih h).2.2]⟩
  | gl _ _ _ => intro n h; cases h
  | ty _ _ _ => intro n h; cases h
  | hnd => intro n h; cases h
  | adr => intro n h; cases h
  | exo => intro n h; cases h
  | dit => intro n h; cases h
  | shl h _ _ i1 i2 => intro n k; cases k with | lst k1 k2 => exact ⟨.cons (.lst (SqL.of (s _ _ h)) (i1 k1).1) (i2 k2).1, by simp [toPys, toPy, PyData.canLayAll0, PyData.canLay0, (i1 k1).2.1, (i2 k2).2.1], by simp only [toPys, toPy, PyData.depthAll, PyData.depth]; exact Nat.max_le.mpr ⟨Nat.succ_le_succ (i1 k1).2.2, (i2 k2).2.2⟩⟩
  | scr h _ _ i1 i2 => intro n k; cases k with | scr k1 k2 => exact ⟨.cons (.lst (s.seq h) (i1 k1).1) (i2 k2).1, by simp [toPys, toPy, PyData.canLayAll0, PyData.canLay0, (i1 k1).2.1, (i2 k2).2.1], by simp only [toPys, toPy, PyData.depthAll, PyData.depth]; exact Nat.max_le.mpr ⟨Nat.succ_le_succ (i1 k1).2.2, (i2 k2).2.2⟩⟩
  | owl h _ _ _ _ _ i1 i2 => intro n k; cases k with | lst k1 k2 => exact ⟨.cons (.lst (SqL.of h) (i1 k1).1) (i2 k2).1, by simp [toPys, toPy, PyData.canLayAll0, PyData.canLay0, (i1 k1).2.1, (i2 k2).2.1], by simp only [toPys, toPy, PyData.depthAll, PyData.depth]; exact Nat.max_le.mpr ⟨Nat.succ_le_succ (i1 k1).2.2, (i2 k2).2.2⟩⟩
  | tup h _ _ _ _ i1 i2 => intro n k; cases k with | tup k1 k2 => exact ⟨.cons (.tup (W.Same.seqT s h) (i1 k1).1) (i2 k2).1, by simp [toPys, toPy, PyData.canLayAll0, PyData.canLay0, (i1 k1).2.1, (i2 k2).2.1], by simp only [toPys, toPy, PyData.depthAll, PyData.depth]; exact Nat.max_le.mpr ⟨Nat.succ_le_succ (i1 k1).2.2, (i2 k2).2.2⟩⟩
  | dic => intro n h; cases h
  | shd => intro n h; cases h
  | sht => intro n h; cases h
  | obj => intro n h; cases h
  | sho => intro n h; cases h
theorem Rp.dp {v : V} {d : D} (s : Same S H) (r : Rp K S H v d P) {n : Nat} (h : PD n [d]) (hn : n ≤ 32) : Dp K H v (toPy d) ∧ SeqAt.shaped (toPy d) = true := by
  obtain ⟨h1, h2, h3⟩ := Rep.dp s r h
  cases h1 with
  | cons h1 _ =>
    refine ⟨h1, ?_⟩
    simp only [toPys, PyData.canLayAll0, Bool.and_true] at h2
    simp only [toPys, PyData.depthAll] at h3
    unfold SeqAt.shaped
    rw [h2, Bool.true_and]
    exact decide_eq_true (by have := Nat.le_max_left (PyData.depth (toPy d)) 0; omega)
end
class Eqy {α : Type} [DecidableEq α] (en : α → D) (n : outParam Nat) : Prop where
  pd : ∀ a, PD n [en a]
  eq : ∀ a b, PyData.eqv (toPy (en a)) (toPy (en b)) = decide (a = b)
abbrev EqE (α : Type) [DecidableEq α] [Enc α] (n : outParam Nat) : Prop := Eqy (Enc.enc : α → D) n
theorem pd_join {n : Nat} {d : D} {ds : List D} (a : PD n [d]) (b : PD n ds) : PD n (d :: ds) := by
  cases a with
  | non _ => exact .non b
  | bl _ => exact .bl b
  | int _ => exact .int b
  | str _ => exact .str b
  | lst x _ => exact .lst x b
  | scr x _ => exact .scr x b
  | tup x _ => exact .tup x b
theorem pd_map {α : Type} {n : Nat} {en : α → D} (h : ∀ a, PD n [en a]) : ∀ xs : List α, PD n (xs.map en)
  | [] => .nil
  | x :: xs => pd_join (h x) (pd_map h xs)
instance : EqE Int 0 := ⟨fun _ => .int .nil, fun a b => by show (a == b) = _; exact Bool.beq_eq_decide_eq a b⟩
instance : EqE Bool 0 := ⟨fun _ => .bl .nil, fun a b => by show (a == b) = _; exact Bool.beq_eq_decide_eq a b⟩
instance : EqE Str 0 := ⟨fun _ => .str .nil, fun a b => by show (a == b) = _; exact Bool.beq_eq_decide_eq a b⟩
instance : EqE Unit 0 := ⟨fun _ => .non .nil, fun a b => by show true = _; exact (decide_eq_true rfl).symm⟩
theorem eqv_map {α : Type} [DecidableEq α] {en : α → D} (h : ∀ a b, PyData.eqv (toPy (en a)) (toPy (en b)) = decide (a = b)) : ∀ xs ys : List α, PyData.eqvAll (toPys (xs.map en)) (toPys (ys.map en)) = decide (xs = ys)
  | [], [] => rfl
  | [], y :: ys => by simp [toPys, PyData.eqvAll]
  | x :: xs, [] => by simp [toPys, PyData.eqvAll]
  | x :: xs, y :: ys => by
    simp only [List.map_cons, toPys, PyData.eqvAll, h x y, eqv_map h xs ys]
    rw [← Bool.decide_and]
    exact decide_eq_decide.mpr (by simp)
instance {α : Type} {n : Nat} [DecidableEq α] [Enc α] [q : EqE α n] : EqE (List α) (n + 1) := ⟨fun xs => .lst (pd_map q.pd xs) .nil, fun a b => eqv_map q.eq a b⟩
/-- not None -/
class NN {α : Type} (en : α → D) : Prop where
  nn : ∀ a, en a ≠ .non
  eqn : ∀ a, PyData.eqv (toPy (en a)) .none = false ∧ PyData.eqv .none (toPy (en a)) = false
abbrev NE (α : Type) [Enc α] : Prop := NN (Enc.enc : α → D)
instance : NE Int := ⟨fun _ => (fun h => nomatch h), fun _ => ⟨rfl, rfl⟩⟩
instance : NE Bool := ⟨fun _ => (fun h => nomatch h), fun _ => ⟨rfl, rfl⟩⟩
instance : NE Str := ⟨fun _ => (fun h => nomatch h), fun _ => ⟨rfl, rfl⟩⟩
instance {α : Type} [Enc α] : NE (List α) := ⟨fun _ => (fun h => nomatch h), fun _ => ⟨rfl, rfl⟩⟩
instance {α β : Type} [Enc α] [Enc β] : NE (T2 α β) := ⟨fun _ => (fun h => nomatch h), fun _ => ⟨rfl, rfl⟩⟩
instance {α β γ : Type} [Enc α] [Enc β] [Enc γ] : NE (T3 α β γ) := ⟨fun _ => (fun h => nomatch h), fun _ => ⟨rfl, rfl⟩⟩
instance {α β γ δ : Type} [Enc α] [Enc β] [Enc γ] [Enc δ] : NE (T4 α β γ δ) := ⟨fun _ => (fun h => nomatch h), fun _ => ⟨rfl, rfl⟩⟩
instance {α : Type} {n : Nat} [DecidableEq α] [Enc α] [q : EqE α n] [z : NE α] : EqE (Option α) n := ⟨fun x => match x with | none => .non .nil | some a => q.pd a, fun a b => by
  cases a with
  | none =>
    cases b with
    | none => rfl
    | some b => rw [show decide ((none : Option α) = some b) = false by simp]; exact (z.eqn b).2
  | some a =>
    cases b with
    | none => rw [show decide (some a = (none : Option α)) = false by simp]; exact (z.eqn a).1
    | some b => rw [show decide (some a = some b) = decide (a = b) by simp]; exact q.eq a b⟩
theorem dec_and {a b c : Prop} [Decidable a] [Decidable b] [Decidable c] (h : c ↔ a ∧ b) : (decide a && decide b) = decide c := by rw [← Bool.decide_and]; exact decide_eq_decide.mpr h.symm
instance {α β : Type} {n m : Nat} [DecidableEq α] [DecidableEq β] [Enc α] [Enc β] [q : EqE α n] [r : EqE β m] : EqE (T2 α β) (max n m + 1) := ⟨fun x => .tup (pd_join ((q.pd _).up (by omega)) ((r.pd _).up (by omega))) .nil, fun ⟨a, b⟩ ⟨c, d⟩ => by
  show PyData.eqvAll [toPy (enc a), toPy (enc b)] [toPy (enc c), toPy (enc d)] = _
  simp only [PyData.eqvAll, q.eq, r.eq, Bool.and_true]
  exact dec_and (by simp)⟩
instance {α β γ : Type} {n m k : Nat} [DecidableEq α] [DecidableEq β] [DecidableEq γ] [Enc α] [Enc β] [Enc γ] [q : EqE α n] [r : EqE β m] [s : EqE γ k] : EqE (T3 α β γ) (max n (max m k) + 1) := ⟨fun x => .tup (pd_join ((q.pd _).up (by omega)) (pd_join ((r.pd _).up (by omega)) ((s.pd _).up (by omega)))) .nil, fun ⟨a, b, c⟩ ⟨d, e, f⟩ => by
  show PyData.eqvAll [toPy (enc a), toPy (enc b), toPy (enc c)] [toPy (enc d), toPy (enc e), toPy (enc f)] = _
  simp only [PyData.eqvAll, q.eq, r.eq, s.eq, Bool.and_true]
  rw [dec_and (c := b = e ∧ c = f) (by rfl)]
  exact dec_and (by simp)⟩
instance {α β γ δ : Type} {n m k j : Nat} [DecidableEq α] [DecidableEq β] [DecidableEq γ] [DecidableEq δ] [Enc α] [Enc β] [Enc γ] [Enc δ] [q : EqE α n] [r : EqE β m] [s : EqE γ k] [u : EqE δ j] : EqE (T4 α β γ δ) (max n (max m (max k j)) + 1) := ⟨fun x => .tup (pd_join ((q.pd _).up (by omega)) (pd_join ((r.pd _).up (by omega)) (pd_join ((s.pd _).up (by omega)) ((u.pd _).up (by omega))))) .nil, fun ⟨a, b, c, d⟩ ⟨e, f, g, h⟩ => by
  show PyData.eqvAll [toPy (enc a), toPy (enc b), toPy (enc c), toPy (enc d)] [toPy (enc e), toPy (enc f), toPy (enc g), toPy (enc h)] = _
  simp only [PyData.eqvAll, q.eq, r.eq, s.eq, u.eq, Bool.and_true]
  rw [dec_and (c := c = g ∧ d = h) (by rfl), dec_and (c := b = f ∧ c = g ∧ d = h) (by rfl)]
  exact dec_and (by simp)⟩
/-! ### operators -/
section
variable {K : PySem.W.Frag}
abbrev eI : Int → D := Enc.enc
abbrev eB : Bool → D := Enc.enc
abbrev eT : Str → D := Enc.enc
theorem o_int {r : R2} {g : Int → Int → Int} (h : ∀ i j H Q, Q (.int (g i j)) H → r (.int i) (.int j) H Q) : Op2 K r eI eI eI (fun a b => .ok (g a b)) := ⟨fun {τ S H x y a b P1 P2 Q} s rx ry _ _ q => by
  obtain ⟨rfl, _⟩ := Rp.int rx
  obtain ⟨rfl, _⟩ := Rp.int ry
  exact h a b H Q (q _ S H (.refl s) (Rep.int _ .nil)), fun _ _ => nx_ok⟩
theorem o_cmp {r : R2} {g : Int → Int → Bool} (h : ∀ i j H Q, Q (.bl (g i j)) H → r (.int i) (.int j) H Q) : Op2 K r eI eI eB (fun a b => .ok (g a b)) := ⟨fun {τ S H x y a b P1 P2 Q} s rx ry _ _ q => by
  obtain ⟨rfl, _⟩ := Rp.int rx
  obtain ⟨rfl, _⟩ := Rp.int ry
  exact h a b H Q (q _ S H (.refl s) (Rep.bl _ .nil)), fun _ _ => nx_ok⟩
theorem o_chk {r : R2} {c : Int → Int → Bool} {g : Int → Int → Int} (h : ∀ i j H Q, c i j = true → Q (.int (g i j)) H → r (.int i) (.int j) H Q) : Op2 K r eI eI eI (fun a b => .chk (c a b) (g a b)) := ⟨fun {τ S H x y a b P1 P2 Q} s rx ry _ _ q => by
  obtain ⟨rfl, _⟩ := Rp.int rx
  obtain ⟨rfl, _⟩ := Rp.int ry
  obtain ⟨hc, q⟩ := q.chk
  exact h a b H Q hc (q _ S H (.refl s) (Rep.int _ .nil)), fun _ _ => nx_chk⟩
theorem o_add : Op2 K (rI0 fun i j => .int (i + j)) eI eI eI addI := o_int fun i j H Q q => ⟨i, j, rfl, rfl, q⟩
theorem o_sub : Op2 K (rI0 fun i j => .int (i - j)) eI eI eI subI := o_int fun i j H Q q => ⟨i, j, rfl, rfl, q⟩
def CMulA (i j : Int) : Prop := i.natAbs < 2 ^ 64 ∨ j.natAbs < 2 ^ 64 ∨ CMulW i j
theorem op_mulA {X : Cx} : OpR X (binaryOp .Mult) (rI CMulA fun i j => .int (i * j)) := opI fun i j _ _ _ _ _ hc q => mul_int q (by
  rcases hc with h | h | h
  · exact CMul.ok (.inl ⟨by omega, by omega⟩)
  · exact CMul.ok (.inr ⟨by omega, by omega⟩)
  · exact h.ok)
theorem o_mul : Op2 K (rI CMulA fun i j => .int (i * j)) eI eI eI mulI := o_chk fun i j H Q c q => ⟨i, j, rfl, rfl, (by have h := of_decide_eq_true c; exact h), q⟩
theorem o_div : Op2 K (rI CDivW fun i j => .int (i / j)) eI eI eI divI := o_chk fun i j H Q c q => ⟨i, j, rfl, rfl, (by have h := of_decide_eq_true c; exact h), q⟩
theorem o_mod : Op2 K (rI (fun _ j => 0 < j) fun i j => .int (i % j)) eI eI eI modI := o_chk fun i j H Q c q => ⟨i, j, rfl, rfl, of_decide_eq_true c, q⟩
theorem o_lt : Op2 K (rI0 fun i j => .bl (decide (i < j))) eI eI eB ltI := o_cmp fun i j H Q q => ⟨i, j, rfl, rfl, q⟩
theorem o_le : Op2 K (rI0 fun i j => .bl (decide (i ≤ j))) eI eI eB leI := o_cmp fun i j H Q q => ⟨i, j, rfl, rfl, q⟩
theorem o_gt : Op2 K (rI0 fun i j => .bl (decide (j < i))) eI eI eB gtI := o_cmp fun i j H Q q => ⟨i, j, rfl, rfl, q⟩
theorem o_ge : Op2 K (rI0 fun i j => .bl (decide (j ≤ i))) eI eI eB geI := o_cmp fun i j H Q q => ⟨i, j, rfl, rfl, q⟩
theorem o_neg : Op1 K (rU fun i => .int (-i)) eI eI negI := ⟨fun {τ S H x a P1 Q} s rx _ q => by
  obtain ⟨rfl, _⟩ := Rp.int rx
  exact ⟨a, rfl, q _ S H (.refl s) (Rep.int _ .nil)⟩, fun _ => nx_ok⟩
theorem o_eq {α : Type} {n : Nat} [DecidableEq α] [Enc α] [e : EqE α n] (hn : n ≤ 32 := by decide) : Op2 K (rEqD K) (Enc.enc : α → D) Enc.enc eB eqA := ⟨fun {τ S H x y a b P1 P2 Q} s rx ry _ _ q => by
  obtain ⟨h1, h2⟩ := Rp.dp s rx (e.pd a) hn
  obtain ⟨h3, h4⟩ := Rp.dp s ry (e.pd b) hn
  exact ⟨_, _, h1, h3, h2, h4, by rw [e.eq]; exact q _ S H (.refl s) (Rep.bl _ .nil)⟩, fun _ _ => nx_ok⟩
theorem o_ne {α : Type} {n : Nat} [DecidableEq α] [Enc α] [e : EqE α n] (hn : n ≤ 32 := by decide) : Op2 K (rNeD K) (Enc.enc : α → D) Enc.enc eB neA := ⟨fun {τ S H x y a b P1 P2 Q} s rx ry _ _ q => by
  obtain ⟨h1, h2⟩ := Rp.dp s rx (e.pd a) hn
  obtain ⟨h3, h4⟩ := Rp.dp s ry (e.pd b) hn
  exact ⟨_, _, h1, h3, h2, h4, by rw [e.eq]; exact q _ S H (.refl s) (Rep.bl _ .nil)⟩, fun _ _ => nx_ok⟩
theorem Rp.isN {α : Type} [Enc α] [z : NE α] {S : Sh} {H : Hp} {x : V} {a : Option α} {P : FP} (r : Rp K S H x (Enc.enc a) P) : decide (x = .non) = a.isNone := by
  cases a with
  | none => obtain ⟨rfl, _⟩ := Rp.non r; rfl
  | some a =>
    refine decide_eq_false fun e => ?_
    subst e
    have r : Rp K S H .non (Enc.enc a) P := r
    have n := z.nn a
    revert r n
    generalize (Enc.enc a : D) = d
    intro r n
    cases r
    exact n rfl
theorem o_isN {α : Type} [Enc α] [NE α] : Op2 K (fun x y H Q => y = .non ∧ Q (.bl (decide (x = .non))) H) (Enc.enc : Option α → D) (Enc.enc : Unit → D) eB isNo := ⟨fun {τ S H x y a b P1 P2 Q} s rx ry _ _ q => ⟨(Rp.non ry).1, by rw [Rp.isN rx]; exact q _ S H (.refl s) (Rep.bl _ .nil)⟩, fun _ _ => nx_ok⟩
theorem o_notN {α : Type} [Enc α] [NE α] : Op2 K (fun x y H Q => y = .non ∧ Q (.bl (!decide (x = .non))) H) (Enc.enc : Option α → D) (Enc.enc : Unit → D) eB notNo := ⟨fun {τ S H x y a b P1 P2 Q} s rx ry _ _ q => ⟨(Rp.non ry).1, by rw [Rp.isN rx]; exact q _ S H (.refl s) (Rep.bl _ .nil)⟩, fun _ _ => nx_ok⟩
theorem sOk_app {a b : Str} (h1 : sOk a = true) (h2 : sOk b = true) : sOk (a ++ b) = true := by
  show Array.all (a.cps ++ b.cps) _ = true
  have h1 : Array.all a.cps (· < 0x110000) = true := h1
  have h2 : Array.all b.cps (· < 0x110000) = true := h2
  rw [Array.all_append, h1, h2] <;> rfl
theorem o_addT : Op2 K (fun x y H Q => ∃ i j, x = .str i ∧ y = .str j ∧ i.length + j.length ≤ sizeLine ∧ Q (.str (i ++ j)) H) eT eT eT addT := ⟨fun {τ S H x y a b P1 P2 Q} s rx ry _ _ q => by
  obtain ⟨rfl, _, o1⟩ := Rp.str rx
  obtain ⟨rfl, _, o2⟩ := Rp.str ry
  obtain ⟨hc, q⟩ := q.chk
  exact ⟨a, b, rfl, rfl, of_decide_eq_true hc, q _ S H (.refl s) (Rep.str _ (sOk_app o1 o2) .nil)⟩, fun _ _ => nx_chk⟩
theorem o_ltT : Op2 K (fun x y H Q => ∃ i j, x = .str i ∧ y = .str j ∧ Q (.bl (decide (i.cps.toList < j.cps.toList))) H) eT eT eB ltT := ⟨fun {τ S H x y a b P1 P2 Q} s rx ry _ _ q => by
  obtain ⟨rfl, _⟩ := Rp.str rx
  obtain ⟨rfl, _⟩ := Rp.str ry
  exact ⟨a, b, rfl, rfl, q _ S H (.refl s) (Rep.bl _ .nil)⟩, fun _ _ => nx_ok⟩
theorem o_inT : Op2 K (fun x y H Q => ∃ (c : Nat) (z : Str), x = .str ⟨#[c]⟩ ∧ y = .str z ∧ Q (.bl (decide (c ∈ z.cps.toList))) H) eT eT eB inT := ⟨fun {τ S H x y a b P1 P2 Q} s rx ry _ _ q => by
  obtain ⟨rfl, _⟩ := Rp.str rx
  obtain ⟨rfl, _⟩ := Rp.str ry
  obtain ⟨⟨l⟩⟩ := a
  match l, q with
  | [c], q => exact ⟨c, b, rfl, rfl, q _ S H (.refl s) (Rep.bl _ .nil)⟩, fun a b e => by
  unfold inT
  split <;> simp⟩
theorem o_inL {α : Type} {n : Nat} [DecidableEq α] [Enc α] [e : EqE α n] (hn : n ≤ 31 := by decide) : Op2 K (rInD K) (Enc.enc : α → D) (Enc.enc : List α → D) eB inL := ⟨fun {τ S H x y a b P1 P2 Q} s rx ry _ _ q => by
  obtain ⟨h1, h2⟩ := Rp.dp s rx (e.pd a) (Nat.le_trans hn (by decide))
  obtain ⟨h3, h4⟩ := Rp.dp s ry ((inferInstance : EqE (List α) (n + 1)).pd b) (Nat.succ_le_succ hn)
  refine ⟨_, _, h1, h3, h2, h4, ?_⟩
  have : ((toPys (b.map Enc.enc)).any fun z => PyData.eqv z (toPy (Enc.enc a))) = decide (a ∈ b) := by
    clear q ry h3 h4
    induction b with
    | nil => rfl
    | cons c b ih =>
      simp only [List.map_cons, toPys, List.any_cons, ih, e.eq]
      rw [← Bool.decide_or]
      exact decide_eq_decide.mpr (by simp [eq_comm])
  rw [this]
  exact q _ S H (.refl s) (Rep.bl _ .nil), fun _ _ => nx_ok⟩
theorem o_ninL {α : Type} {n : Nat} [DecidableEq α] [Enc α] [e : EqE α n] (hn : n ≤ 31 := by decide) : Op2 K (rNotInD K) (Enc.enc : α → D) (Enc.enc : List α → D) eB ninL := ⟨fun {τ S H x y a b P1 P2 Q} s rx ry f1 f2 q => by
  obtain ⟨d, ds, h1, h3, h2, h4, h5⟩ := (o_inL (K := K) (α := α) hn).run (Q := fun v _ => v = .bl (decide (a ∈ b))) s rx ry f1 f2 (show RQ (Res.ok (decide (a ∈ b))) _ _ from fun w S' H' _ r => (Rp.bl r).1)
  refine ⟨d, ds, h1, h3, h2, h4, ?_⟩
  injection h5 with h5
  rw [h5]
  exact q _ S H (.refl s) (Rep.bl _ .nil), fun _ _ => nx_ok⟩
/-! subscripts -/
theorem atI_map {α : Type} {S : Sh} {H : Hp} {ws : List V} {en : α → D} {xs : List α} {i : Int} {a : α} (r : Rep K S H ws (xs.map en) Emp) (h : atI xs i = some a) : ∃ v, L2.atI ws i = some v ∧ Rp K S H v (en a) Emp := by
  have hl : ws.length = xs.length := by rw [r.len, List.length_map]
  unfold atI at h
  obtain ⟨j, e1, e2⟩ := Option.bind_eq_some_iff.mp h
  obtain ⟨v, e3, rv⟩ := Rep.getE r (i := j) (d := en a) (by rw [List.getElem?_map, e2]; rfl)
  refine ⟨v, ?_, rv⟩
  unfold L2.atI
  rw [hl]
  exact Option.bind_eq_some_iff.mpr ⟨j, e1, e3⟩
theorem o_ixL {α : Type} [Enc α] : Op2 K (rIxL K) (Enc.enc : List α → D) eI (Enc.enc : α → D) idxL := ⟨fun {τ S H x y a b P1 P2 Q} s rx ry f1 _ q => by
  obtain ⟨rfl, _⟩ := Rp.int ry
  obtain ⟨p, ws, rfl, h, r⟩ := Rp.lstF s rx f1
  obtain ⟨z, e, q⟩ := q.ofO
  obtain ⟨v, e2, rv⟩ := atI_map r e
  exact ⟨p, ws, b, v, rfl, rfl, SqL.of h, e2, q v S H (.refl s) rv⟩, fun _ _ => nx_ofO⟩
theorem o_ixC : Op2 K (rIxL K) (Enc.enc : Scr → D) eI eI (fun a b => idxL a.ns b) := ⟨fun {τ S H x y a b P1 P2 Q} s rx ry f1 _ q => by
  obtain ⟨rfl, _⟩ := Rp.int ry
  obtain ⟨p, ws, rfl, h, r⟩ := Rp.scr rx
  obtain ⟨z, e, q⟩ := q.ofO
  obtain ⟨v, e2, rv⟩ := atI_map r e
  exact ⟨p, ws, b, v, rfl, rfl, s.seq h, e2, q v S H (.refl s) rv⟩, fun _ _ => nx_ofO⟩
theorem sOk_mem {z : Str} {c : Nat} (o : sOk z = true) (h : c ∈ z.cps.toList) : sOk (one c) = true := by
  have o : Array.all z.cps (· < 0x110000) = true := o
  have h2 : c ∈ z.cps := by simpa using h
  have := Array.all_eq_true_iff_forall_mem.mp o c h2
  show Array.all #[c] _ = true
  simpa using this
theorem o_ixT : Op2 K rIxS eT eI eT idxT := ⟨fun {τ S H x y a b P1 P2 Q} s rx ry f1 _ q => by
  obtain ⟨rfl, _⟩ := Rp.int ry
  obtain ⟨rfl, _, o⟩ := Rp.str rx
  obtain ⟨hc, q⟩ := q.bind.chk
  obtain ⟨c, e, q⟩ := q.bind.ofO
  refine ⟨a, b, c, rfl, rfl, of_decide_eq_true hc, e, q _ S H (.refl s) (Rep.str _ (sOk_mem o ?_) .nil)⟩
  unfold atI at e
  obtain ⟨j, _, e2⟩ := Option.bind_eq_some_iff.mp e
  exact List.mem_of_getElem? e2, fun a b e h => by
  unfold idxT at h
  cases hc : decide (a.length ≤ sizeLn) <;> rw [hc] at h
  · cases h
  · cases hd : atI a.cps.toList b <;> rw [hd] at h <;> cases h⟩
/-- t[i], t a tuple, i written -/
theorem o_ixU {α β : Type} {ea : α → D} {eb : β → D} {eds : α → List D} (i : Int) (get : α → β) (h : ∀ a, ea a = .tup (eds a)) (hg : ∀ a, atI (eds a) i = some (eb (get a))) : Op2 K (rIxT K) ea eI eb (fun a j => .chk (decide (j = i)) (get a)) := ⟨fun {τ S H x y a b P1 P2 Q} s rx ry f1 _ q => by
  obtain ⟨rfl, _⟩ := Rp.int ry
  obtain ⟨hc, q2⟩ := q.chk
  have hc := of_decide_eq_true hc
  subst hc
  rw [h] at rx
  obtain ⟨p, ws, rfl, hs, r, np⟩ := Rp.tup rx
  have f1 : P1 = Emp := by
    rcases f1 with e | ⟨p', e1, e⟩
    · exact e
    · injection e1 with e1
      subst e1
      rw [e] at np
      exact (np rfl).elim
  subst f1
  have e : atI (eds a) b = some (eb (get a)) := hg a
  obtain ⟨v, e2, rv⟩ := atI_map (en := id) (by rw [List.map_id]; exact r) e
  exact ⟨p, ws, b, v, rfl, rfl, W.Same.seqT s hs, e2, q2 v S H (.refl s) rv⟩, fun _ _ => nx_chk⟩
end
end M

namespace M
open Enc (enc)
open PySem PySem.Spec PyProof.Rows L2 W
/-! ### displays, subscripts, calls -/
section
variable {X : Cx} {T α β γ : Type} {l : Lay T} {W : WX} {e e1 e2 : Expr} {es : List Expr} {ea : α → D} {eb : β → D} {f : T → Res α} {g : T → Res β} {pos p2 : Pos}
theorem szOk {β : Type} {eb : β → List D} {b : β} (h : decide ((eb b).length ≤ 100) = true) : (eb b).length ≤ sizeLine := Nat.le_trans (of_decide_eq_true h) (by decide)
/-- a new shared tuple -/
theorem me_tup {x1} {eb : β → List D} {fb : β → α} (h : PA X es (tMA X.K l W eb g)) (he : ∀ b, ea (fb b) = .tup (eb b)) (hl : ∀ b, decide ((eb b).length ≤ 100) = true := by intro _; rfl) : PE X (.Tuple es x1 pos) (tME X.K l W ea (op1 (fun b => .ok (fb b)) g)) := PE.imp (pe_tup h) fun σ H Q ⟨S, t, P, c, E, q⟩ =>
  ⟨S, t, P, c, E, q.bind.imp (fun b q vs S' H' g r => ⟨by rw [r.len]; exact szOk (hl b), fun p hp => by
    refine (show ∀ v S2 H2, Grow l.tabs S H S2 H2 → Rp X.K S2 H2 v (ea (fb b)) Emp → Q v H2 from q) _ (S'.upd p (.tup vs)) _ (g.trans (.lay g.sub hp)) ?_
    rw [he]
    have gl := Grow.lay (o := .tup vs) g.sub hp
    exact (Rep.tup (.of (show (S'.upd p (.tup vs)) p = _ from upd_same)) (r.grow gl) .nil (fun z => z) fun _ z => z.elim).emp fun x z => z.elim id id⟩) fun _ z => z⟩
/-- a new list -/
theorem own_lst {τ : TL} {K : PySem.W.Frag} {S : Sh} {H : Hp} {p : Addr} {vs : List V} {ds : List D} (sub : Sub τ S H) (hp : H p = none) (r : Rep K S H vs ds Emp) : Grow τ S H S (upd H p (.lst vs)) ∧ Rp K S (upd H p (.lst vs)) (.ref p) (.lst ds) (fun x => x = p) ∧ Md.ow.ok (.ref p) (fun x => x = p) ∧ ∀ x, x = p → H x = none ∧ S x = none := by
  have gl := Grow.own (o := .lst vs) sub hp
  refine ⟨gl, ?_, ⟨p, rfl, rfl⟩, fun x e => e ▸ ⟨hp, sub.free hp⟩⟩
  exact (Rep.owl upd_same (r.grow gl) .nil (fun z => z) (fun z => z) fun _ z => z.elim).cast fun x => ⟨fun z => z.elim id fun z => z.elim False.elim False.elim, .inl⟩
theorem mo_lst {eb : β → List D} {fb : β → α} (h : PA X es (tMA X.K l W eb g)) (he : ∀ b, ea (fb b) = .lst (eb b)) (hl : ∀ b, decide ((eb b).length ≤ 100) = true := by intro _; rfl) : PE X (.List es pos) (tMO X.K l W .ow ea (op1 (fun b => .ok (fb b)) g)) := PE.imp (pe_lst h) fun σ H Q ⟨S, t, P, c, E, q⟩ =>
  ⟨S, t, P, c, E, q.bind.imp (fun b q vs S' H' g r => ⟨by rw [r.len]; exact szOk (hl b), fun p hp => by
    obtain ⟨g2, r2, o2, n2⟩ := own_lst g.sub hp r
    refine (show ∀ v S2 H2 P1, Grow l.tabs S H S2 H2 → Rp X.K S2 H2 v (ea (fb b)) P1 → Md.ow.ok v P1 → (∀ x, P1 x → H x = none ∧ S2 x = none) → Q v H2 from q) _ S' _ _ (g.trans g2) ?_ o2 fun x e => ⟨g.h.free (n2 x e).1, (n2 x e).2⟩
    rw [he]
    exact r2⟩) fun _ z => z⟩
theorem me_ix {R : R2} {ec : γ → D} {h : α → β → Res γ} (ho : IxR X R) (o : Op2 X.K R ea eb ec h) (ha : PE X e1 (tMB X.K l W ea f)) (hb : PE X e2 (tMB X.K l W eb g)) (hs : PlainIx e2 := by intro _ _; rfl) : PE X (.Subscript e1 e2 pos) (tME X.K l W ec (op2 h f g)) := PE.imp (pe_ix ho ha hb hs) (mb_two o)
/-! parts of a slice -/
def tMP {T : Type} (K : PySem.W.Frag) (l : Lay T) (W : WX) (f : T → Res (Option Int)) : TO := fun σ H Q => ∃ S t P, Cfg l.tabs S H P ∧ Env K S H σ l t P ∧ RQ (f t) (fun a => ∀ S' H', Grow l.tabs S H S' H' → Q a H') (ExQ K l.tabs W S H σ)
theorem PO.imp {o : Option Expr} {t t' : TO} (h : PO X o t) (k : ∀ σ H Q, t' σ H Q → t σ H Q) : PO X o t' := ⟨fun pins s σ H Q I z => h.run pins s σ H Q I (k σ H Q z)⟩
theorem mp_none : PO X none (tMP X.K l W fun _ => .ok none) := PO.imp po_none fun σ H Q ⟨S, t, P, c, E, q⟩ => q S H (.refl c.sub)
theorem mp_some {f : T → Res Int} (h : PE X e (tME X.K l W eI f)) : PO X (some e) (tMP X.K l W (op1 (fun i => .ok (some i)) f)) := PO.imp (po_some h) fun σ H Q ⟨S, t, P, c, E, q⟩ =>
  ⟨S, t, P, c, E, q.bind.imp (fun i q v S' H' g r => ⟨i, (Rp.int r).1, (show ∀ S2 H2, Grow l.tabs S H S2 H2 → Q (some i) H2 from q) S' H' g⟩) fun _ z => z⟩
theorem Rep.take {K : PySem.W.Frag} {S : Sh} {H : Hp} : ∀ {ds : List D} {vs : List V} (n : Nat), Rep K S H vs ds Emp → Rep K S H (vs.take n) (ds.take n) Emp
  | _, _, 0, _ => by simpa using Rep.nil
  | [], vs, n + 1, r => by obtain ⟨rfl, _⟩ := r.nilP; exact .nil
  | d :: ds, vs, n + 1, r => by
    obtain ⟨v, us, rfl, h1, h2⟩ := r.splitE
    exact h1.joinE (Rep.take n h2)
theorem Rep.drop {K : PySem.W.Frag} {S : Sh} {H : Hp} : ∀ {ds : List D} {vs : List V} (n : Nat), Rep K S H vs ds Emp → Rep K S H (vs.drop n) (ds.drop n) Emp
  | _, _, 0, r => by simpa using r
  | [], vs, n + 1, r => by obtain ⟨rfl, _⟩ := r.nilP; exact .nil
  | d :: ds, vs, n + 1, r => by
    obtain ⟨v, us, rfl, h1, h2⟩ := r.splitE
    exact Rep.drop n h2
theorem sIx_eq : @M.sIx = @HT.sIx := by
  funext n d o
  cases o <;> rfl
theorem Rep.cutV {α : Type} {K : PySem.W.Frag} {S : Sh} {H : Hp} {vs : List V} {xs : List α} {en : α → D} (lo hi : Option Int) (r : Rep K S H vs (xs.map en) Emp) : Rep K S H (L2.cutV vs lo hi) ((cut xs lo hi).map en) Emp := by
  have hl : vs.length = xs.length := by rw [r.len, List.length_map]
  unfold L2.cutV cut
  rw [hl, sIx_eq, List.map_take, List.map_drop]
  exact (r.drop _).take _
theorem slice_c {R : V → Option Int → Option Int → Hp → VK → Prop} {m : Md} {ec : γ → D} {h : α → Option Int → Option Int → Res γ} {k1 k2 : T → Res (Option Int)} {lo hi : Option Expr}
    (o : ∀ {τ S H x a lo hi P1 Q}, Sub τ S H → Rp X.K S H x (ea a) P1 → Fl x P1 → RQ (h a lo hi) (fun c => ∀ w S' H' P3, Grow τ S H S' H' → Rp X.K S' H' w (ec c) P3 → m.ok w P3 → (∀ x, P3 x → H x = none ∧ S' x = none) → Q w H') (fun _ => False) → R x lo hi H Q) (nx : ∀ a lo hi, NoX (h a lo hi))
    (σ : L2.St) (H : Hp) (Q : VK) : tMO X.K l W m ec (op3 h f k1 k2) σ H Q → tSl R (tMB X.K l W ea f) (tMP X.K l W k1) (tMP X.K l W k2) σ H Q := fun ⟨S, t, P, c, E, q⟩ =>
  ⟨S, t, P, c, E, q.bind.imp (fun a q v S1 H1 P1 g1 r1 f1 _ => ⟨S1, t, P, c.grow g1, E.grow g1, q.bind.imp (fun x q S2 H2 g2 => ⟨S2, t, P, (c.grow g1).grow g2, (E.grow g1).grow g2, q.bind.imp (fun y q S3 H3 g3 =>
    o g3.sub ((r1.grow g2).grow g3) f1 ((q.nox (nx a x y)).imp (fun z q w S' H' P3 g4 r4 o4 n4 => q w S' H' P3 ((g1.trans g2).trans (g3.trans g4)) r4 o4 fun x e => ⟨g1.h.free (g2.h.free (g3.h.free (n4 x e).1)), (n4 x e).2⟩) fun _ z => z)) fun _ z => exq_grow z (g1.trans g2)⟩) fun _ z => exq_grow z g1⟩) fun _ z => z⟩
theorem mo_slL {α : Type} [Enc α] {f : T → Res (List α)} {k1 k2 : T → Res (Option Int)} {lo hi : Option Expr} (he : PE X e (tMB X.K l W Enc.enc f)) (h1 : PO X lo (tMP X.K l W k1)) (h2 : PO X hi (tMP X.K l W k2)) : PE X (.Subscript e (.Slice lo hi none p2) pos) (tMO X.K l W .ow (Enc.enc : List α → D) (op3 (fun xs a b => .ok (cut xs a b)) f k1 k2)) :=
  PE.imp (pe_slice sl_list he h1 h2) (slice_c (lo := lo) (hi := hi) (fun {τ S H x a lo hi P1 Q} s rx f1 q => by
    obtain ⟨p, ws, rfl, h, r⟩ := Rp.lstF s rx f1
    refine ⟨p, ws, rfl, SqL.of h, fun d hd => ?_⟩
    obtain ⟨g2, r2, o2, n2⟩ := own_lst s hd (r.cutV lo hi)
    exact q _ S _ _ g2 r2 o2 n2) fun _ _ _ => nx_ok)
theorem mo_slC {f : T → Res Scr} {k1 k2 : T → Res (Option Int)} {lo hi : Option Expr} (he : PE X e (tMB X.K l W Enc.enc f)) (h1 : PO X lo (tMP X.K l W k1)) (h2 : PO X hi (tMP X.K l W k2)) : PE X (.Subscript e (.Slice lo hi none p2) pos) (tMO X.K l W .ow (Enc.enc : List Int → D) (op3 (fun xs a b => .ok (cut xs.ns a b)) f k1 k2)) :=
  PE.imp (pe_slice sl_list he h1 h2) (slice_c (lo := lo) (hi := hi) (fun {τ S H x a lo hi P1 Q} s rx f1 q => by
    obtain ⟨p, ws, rfl, h, r⟩ := Rp.scr rx
    refine ⟨p, ws, rfl, s.seq h, fun d hd => ?_⟩
    obtain ⟨g2, r2, o2, n2⟩ := own_lst s hd (r.cutV lo hi)
    exact q _ S _ _ g2 r2 o2 n2) fun _ _ _ => nx_ok)
/-! operators that lay a list -/
structure Op2O (K : PySem.W.Frag) (r : R2) (m : Md) (ea : α → D) (eb : β → D) (ec : γ → D) (g : α → β → Res γ) : Prop where
  run : ∀ {τ : TL} {S : Sh} {H : Hp} {x y : V} {a : α} {b : β} {P1 P2 : FP} {Q : VK}, Sub τ S H → Rp K S H x (ea a) P1 → Rp K S H y (eb b) P2 → Fl x P1 → Fl y P2 → RQ (g a b) (fun c => ∀ w S' H' P3, Grow τ S H S' H' → Rp K S' H' w (ec c) P3 → m.ok w P3 → (∀ x, P3 x → H x = none ∧ S' x = none) → Q w H') (fun _ => False) → r x y H Q
  nox : ∀ a b, NoX (g a b) := by first | exact fun _ _ => nx_ok | exact fun _ _ => nx_ofO | exact fun _ _ => nx_chk
theorem mo_op {op : Operator} {R : R2} {m : Md} {ec : γ → D} {h : α → β → Res γ} (ho : OpR X (binaryOp op) R) (o : Op2O X.K R m ea eb ec h) (ha : PE X e1 (tMB X.K l W ea f)) (hb : PE X e2 (tMB X.K l W eb g)) : PE X (.BinOp e1 op e2 pos) (tMO X.K l W m ec (op2 h f g)) := PE.imp (pe_op ho ha hb) fun σ H Q ⟨S, t, P, c, E, q⟩ =>
  ⟨S, t, P, c, E, q.bind.imp (fun a q v S1 H1 P1 g1 r1 f1 k1 => ⟨S1, t, P, c.grow g1, E.grow g1, q.bind.imp (fun b q w S2 H2 P2 g2 r2 f2 k2 => o.run g2.sub (r1.grow g2) r2 f1 f2 ((q.nox (o.nox a b)).imp (fun z q w S' H' P3 g3 r3 o3 n3 => q w S' H' P3 ((g1.trans g2).trans g3) r3 o3 fun x e => ⟨g1.h.free (g2.h.free (n3 x e).1), (n3 x e).2⟩) fun _ z => z)) fun _ z => exq_grow z g1⟩) fun _ z => z⟩
theorem o_catL {α : Type} [Enc α] {K : PySem.W.Frag} : Op2O K rCat .ow (Enc.enc : List α → D) (Enc.enc : List α → D) (Enc.enc : List α → D) catL := ⟨fun {τ S H x y a b P1 P2 Q} s rx ry f1 f2 q => by
  obtain ⟨p, ws, rfl, h, r⟩ := Rp.lstF s rx f1
  obtain ⟨p2, ws2, rfl, h2, r2⟩ := Rp.lstF s ry f2
  obtain ⟨hc, q⟩ := q.chk
  have hc := of_decide_eq_true hc
  have l1 : ws.length = a.length := by rw [r.len, List.length_map]
  have l2 : ws2.length = b.length := by rw [r2.len, List.length_map]
  refine ⟨p, p2, ws, ws2, rfl, rfl, h, h2, by rw [l1, l2]; exact hc, fun d hd => ?_⟩
  obtain ⟨g3, r3, o3, n3⟩ := own_lst s hd (Rep.appE r r2)
  refine q _ S _ _ g3 ?_ o3 n3
  show Rp K S _ _ (.lst ((a ++ b).map Enc.enc)) _
  rw [List.map_append]
  exact r3, fun _ _ => nx_chk⟩
/-! built-ins by name -/
structure OpN (K : PySem.W.Frag) (r : List V → Hp → VK → Prop) (en : α → List D) (eb : β → D) (g : α → Res β) : Prop where
  run : ∀ {τ : TL} {S : Sh} {H : Hp} {vs : List V} {a : α} {P : FP} {Q : VK}, Sub τ S H → RepB K S H P vs (en a) → RQ (g a) (fun c => ∀ w S' H', Grow τ S H S' H' → Rp K S' H' w (eb c) Emp → Q w H') (fun _ => False) → r vs H Q
  nox : ∀ a, NoX (g a) := by first | exact fun _ => nx_ok | exact fun _ => nx_ofO | exact fun _ => nx_chk
structure OpNO (K : PySem.W.Frag) (r : List V → Hp → VK → Prop) (m : Md) (en : α → List D) (eb : β → D) (g : α → Res β) : Prop where
  run : ∀ {τ : TL} {S : Sh} {H : Hp} {vs : List V} {a : α} {P : FP} {Q : VK}, Sub τ S H → RepB K S H P vs (en a) → RQ (g a) (fun c => ∀ w S' H' P3, Grow τ S H S' H' → Rp K S' H' w (eb c) P3 → m.ok w P3 → (∀ x, P3 x → H x = none ∧ S' x = none) → Q w H') (fun _ => False) → r vs H Q
  nox : ∀ a, NoX (g a) := by first | exact fun _ => nx_ok | exact fun _ => nx_ofO | exact fun _ => nx_chk
theorem cb_of {R : List V → Hp → VK → Prop} {en : α → List D} {h : α → Res β} (o : OpN X.K R en eb h) (σ : L2.St) (H : Hp) (Q : VK) : tME X.K l W eb (op1 h f) σ H Q → tCB R (tMAB X.K l W en f) σ H Q := fun ⟨S, t, P, c, E, q⟩ =>
  ⟨S, t, P, c, E, q.bind.imp (fun a q vs S1 H1 g1 r1 => o.run g1.sub r1 ((q.nox (o.nox a)).imp (fun z q w S' H' g3 r3 => q w S' H' (g1.trans g3) r3) fun _ z => z)) fun _ z => z⟩
theorem cb_ofO {R : List V → Hp → VK → Prop} {m : Md} {en : α → List D} {h : α → Res β} (o : OpNO X.K R m en eb h) (σ : L2.St) (H : Hp) (Q : VK) : tMO X.K l W m eb (op1 h f) σ H Q → tCB R (tMAB X.K l W en f) σ H Q := fun ⟨S, t, P, c, E, q⟩ =>
  ⟨S, t, P, c, E, q.bind.imp (fun a q vs S1 H1 g1 r1 => o.run g1.sub r1 ((q.nox (o.nox a)).imp (fun z q w S' H' P3 g3 r3 o3 n3 => q w S' H' P3 (g1.trans g3) r3 o3 fun x e => ⟨g1.h.free (n3 x e).1, (n3 x e).2⟩) fun _ z => z)) fun _ z => z⟩
section
variable {R : List V → Hp → VK → Prop} {m : Md} {en : α → List D} {h : α → Res β} {x : Str} {id : String} {p : Pos}
theorem me_callB (hc : CallR X (.builtin id) R) (o : OpN X.K R en eb h) (hg : Gl X x) (hm : X.mg x = none) (ha : PA X (e :: es) (tMAB X.K l W en f)) (hv : bootBuiltins x = some (.builtin id) := by decide +kernel) (hn : x ≠ "__name__" := by decide) (hdb : (x == ("__debug__" : Str)) = false := by decide)
    (he : starEach (e :: es) X.env = (false, eval e X.env) :: starEach es X.env := by rfl) (hpl : (backTo pos (starEach es X.env)).any (·.1) = false := by rfl) : PE X (.Call (.Name x p) (e :: es) [] pos) (tME X.K l W eb (op1 h f)) := PE.imp (pe_callB hc hg hm hv ha hn hdb he hpl) (cb_of o)
theorem mo_callB (hc : CallR X (.builtin id) R) (o : OpNO X.K R m en eb h) (hg : Gl X x) (hm : X.mg x = none) (ha : PA X (e :: es) (tMAB X.K l W en f)) (hv : bootBuiltins x = some (.builtin id) := by decide +kernel) (hn : x ≠ "__name__" := by decide) (hdb : (x == ("__debug__" : Str)) = false := by decide)
    (he : starEach (e :: es) X.env = (false, eval e X.env) :: starEach es X.env := by rfl) (hpl : (backTo pos (starEach es X.env)).any (·.1) = false := by rfl) : PE X (.Call (.Name x p) (e :: es) [] pos) (tMO X.K l W m eb (op1 h f)) := PE.imp (pe_callB hc hg hm hv ha hn hdb he hpl) (cb_ofO o)
theorem me_callTy (hc : CallR X (.type id) R) (o : OpN X.K R en eb h) (hg : Gl X x) (hm : X.mg x = none) (ha : PA X (e :: es) (tMAB X.K l W en f)) (hv : bootBuiltins x = some (.type id) := by decide +kernel) (hn : x ≠ "__name__" := by decide) (hdb : (x == ("__debug__" : Str)) = false := by decide)
    (he : starEach (e :: es) X.env = (false, eval e X.env) :: starEach es X.env := by rfl) (hpl : (backTo pos (starEach es X.env)).any (·.1) = false := by rfl) : PE X (.Call (.Name x p) (e :: es) [] pos) (tME X.K l W eb (op1 h f)) := PE.imp (pe_callTy hc hg hm hv ha hn hdb he hpl) (cb_of o)
theorem mo_callTy (hc : CallR X (.type id) R) (o : OpNO X.K R m en eb h) (hg : Gl X x) (hm : X.mg x = none) (ha : PA X (e :: es) (tMAB X.K l W en f)) (hv : bootBuiltins x = some (.type id) := by decide +kernel) (hn : x ≠ "__name__" := by decide) (hdb : (x == ("__debug__" : Str)) = false := by decide)
    (he : starEach (e :: es) X.env = (false, eval e X.env) :: starEach es X.env := by rfl) (hpl : (backTo pos (starEach es X.env)).any (·.1) = false := by rfl) : PE X (.Call (.Name x p) (e :: es) [] pos) (tMO X.K l W m eb (op1 h f)) := PE.imp (pe_callTy hc hg hm hv ha hn hdb he hpl) (cb_ofO o)
end
theorem RepB.one {K : PySem.W.Frag} {S : Sh} {H : Hp} {P : FP} {vs : List V} {d : D} (r : RepB K S H P vs [d]) : ∃ v P1, vs = [v] ∧ Rp K S H v d P1 ∧ Fl v P1 := by
  cases r with
  | cons h f _ r => cases r; exact ⟨_, _, rfl, h, f⟩
theorem RepB.two {K : PySem.W.Frag} {S : Sh} {H : Hp} {P : FP} {vs : List V} {d d' : D} (r : RepB K S H P vs [d, d']) : ∃ v w P1 P2, vs = [v, w] ∧ Rp K S H v d P1 ∧ Fl v P1 ∧ Rp K S H w d' P2 ∧ Fl w P2 := by
  cases r with
  | cons h f _ r =>
    cases r with
    | cons h2 f2 _ r => cases r; exact ⟨_, _, _, _, rfl, h, f, h2, f2⟩
variable {K : PySem.W.Frag}
abbrev a1 {α : Type} (en : α → D) : α × Unit → List D := consD en nilD
abbrev a2 {α β : Type} (en : α → D) (em : β → D) : α × β × Unit → List D := consD en (consD em nilD)
theorem o_lenL {α : Type} [Enc α] : OpN K (fun xs H Q => ∃ p ys, xs = [.ref p] ∧ (SqL K H p ys ∨ SqT K H p ys) ∧ Q (.int ys.length) H) (a1 (Enc.enc : List α → D)) eI (fun x => lenL x.1) := ⟨fun {τ S H vs a P Q} s r q => by
  obtain ⟨v, P1, rfl, r, f⟩ := r.one
  obtain ⟨p, ws, rfl, h, r⟩ := Rp.lstF s r f
  refine ⟨p, ws, rfl, .inl (SqL.of h), ?_⟩
  rw [show ws.length = a.1.length by rw [r.len, List.length_map]]
  exact q _ S H (.refl s) (Rep.int _ .nil), fun _ => nx_ok⟩
theorem o_lenC : OpN K (fun xs H Q => ∃ p ys, xs = [.ref p] ∧ (SqL K H p ys ∨ SqT K H p ys) ∧ Q (.int ys.length) H) (a1 (Enc.enc : Scr → D)) eI (fun x => lenL x.1.ns) := ⟨fun {τ S H vs a P Q} s r q => by
  obtain ⟨v, P1, rfl, r, f⟩ := r.one
  obtain ⟨p, ws, rfl, h, r⟩ := Rp.scr r
  refine ⟨p, ws, rfl, .inl (s.seq h), ?_⟩
  rw [show ws.length = a.1.ns.length by rw [r.len, List.length_map]]
  exact q _ S H (.refl s) (Rep.int _ .nil), fun _ => nx_ok⟩
theorem o_lenT : OpN K (fun xs H Q => ∃ z, xs = [.str z] ∧ z.length ≤ sizeLine ∧ Q (.int z.length) H) (a1 eT) eI (fun x => lenT x.1) := ⟨fun {τ S H vs a P Q} s r q => by
  obtain ⟨v, P1, rfl, r, f⟩ := r.one
  obtain ⟨rfl, _, _⟩ := Rp.str r
  obtain ⟨hc, q⟩ := q.chk
  exact ⟨a.1, rfl, of_decide_eq_true hc, q _ S H (.refl s) (Rep.int _ .nil)⟩, fun _ => nx_chk⟩
theorem o_intB : OpN K (fun xs H Q => (∃ i, xs = [.int i] ∧ Q (.int i) H) ∨ ∃ k, xs = [.bl k] ∧ Q (.int (if k then 1 else 0)) H) (a1 eB) eI (fun x => intB x.1) := ⟨fun {τ S H vs a P Q} s r q => by
  obtain ⟨v, P1, rfl, r, f⟩ := r.one
  obtain ⟨rfl, _⟩ := Rp.bl r
  exact .inr ⟨a.1, rfl, q _ S H (.refl s) (Rep.int _ .nil)⟩, fun _ => nx_ok⟩
theorem o_min2 : OpN K (fun xs H Q => ∃ i j, xs = [.int i, .int j] ∧ Q (.int (if j < i then j else i)) H) (a2 eI eI) eI (fun x => min2 x.1 x.2.1) := ⟨fun {τ S H vs a P Q} s r q => by
  obtain ⟨v, w, P1, P2, rfl, r, f, r2, f2⟩ := r.two
  obtain ⟨rfl, _⟩ := Rp.int r
  obtain ⟨rfl, _⟩ := Rp.int r2
  exact ⟨_, _, rfl, q _ S H (.refl s) (Rep.int _ .nil)⟩, fun _ => nx_ok⟩
theorem o_max2 : OpN K (fun xs H Q => ∃ i j, xs = [.int i, .int j] ∧ Q (.int (if j > i then j else i)) H) (a2 eI eI) eI (fun x => max2 x.1 x.2.1) := ⟨fun {τ S H vs a P Q} s r q => by
  obtain ⟨v, w, P1, P2, rfl, r, f, r2, f2⟩ := r.two
  obtain ⟨rfl, _⟩ := Rp.int r
  obtain ⟨rfl, _⟩ := Rp.int r2
  exact ⟨_, _, rfl, q _ S H (.refl s) (Rep.int _ .nil)⟩, fun _ => nx_ok⟩
theorem o_listL {α : Type} [Enc α] : OpNO K (fun xs H Q => ∃ p ys, xs = [.ref p] ∧ (SqL K H p ys ∨ SqT K H p ys) ∧ ∀ l, H l = none → Q (.ref l) (upd H l (.lst ys))) .ow (a1 (Enc.enc : List α → D)) (Enc.enc : List α → D) (fun x => .ok x.1) := ⟨fun {τ S H vs a P Q} s r q => by
  obtain ⟨v, P1, rfl, r, f⟩ := r.one
  obtain ⟨p, ws, rfl, h, r⟩ := Rp.lstF s r f
  refine ⟨p, ws, rfl, .inl (SqL.of h), fun d hd => ?_⟩
  obtain ⟨g3, r3, o3, n3⟩ := own_lst s hd r
  exact q _ S _ _ g3 r3 o3 n3, fun _ => nx_ok⟩
theorem sOk_num (i : Int) : sOk (toString i : String) = true := by
  show Array.all (Str.ofString (toString i)).cps (· < 0x110000) = true
  rw [Str.ofString_eq_toList, Array.all_eq_true_iff_forall_mem]
  intro c hc
  simp only [List.mem_toArray, List.mem_map] at hc
  obtain ⟨ch, _, rfl⟩ := hc
  have := ch.valid
  simp only [decide_eq_true_eq]
  rcases this with h | h
  · exact Nat.lt_trans h (by decide)
  · exact h.2
theorem o_strI : OpN K (fun xs H Q => ∃ i, xs = [.int i] ∧ i.natAbs.log2 < 1920 ∧ Q (.str (toString i)) H) (a1 eI) eT (fun x => strI x.1) := ⟨fun {τ S H vs a P Q} s r q => by
  obtain ⟨v, P1, rfl, r, f⟩ := r.one
  obtain ⟨rfl, _⟩ := Rp.int r
  obtain ⟨hc, q⟩ := q.chk
  exact ⟨_, rfl, of_decide_eq_true hc, q _ S H (.refl s) (Rep.str _ (sOk_num _) .nil)⟩, fun _ => nx_chk⟩
end
/-! ### defs -/
def spP {α β : Type} (K : PySem.W.Frag) (τ : TL) (ea : α → List D) (mr : Md) (er : β → D) (f : α → Res β) : Sp := fun vs H Q E => ∃ S a, Sub τ S H ∧ Rep K S H vs (ea a) Emp ∧
  RQ (f a) (fun r => ∀ v S' H' P1, Grow τ S H S' H' → Rp K S' H' v (er r) P1 → mr.ok v P1 → (∀ x, P1 x → H x = none ∧ S' x = none) → Q v H') (fun e => ∀ S' H' cls d, Grow τ S H S' H' → ExRel K e cls d S' → E cls d H')
/-- what is known at once, whatever the heap (no object) -/
class Sca {α : Type} (en : α → D) : Prop where
  sca : ∀ {K : PySem.W.Frag} {S S' : Sh} {H H' : Hp} {v : V} {P : FP} (a : α), Rp K S H v (en a) P → Rp K S' H' v (en a) Emp
abbrev ScE (α : Type) [Enc α] : Prop := Sca (Enc.enc : α → D)
instance : ScE Int := ⟨fun a r => by obtain ⟨rfl, _⟩ := Rp.int r; exact Rep.int a .nil⟩
instance : ScE Bool := ⟨fun a r => by obtain ⟨rfl, _⟩ := Rp.bl r; exact Rep.bl a .nil⟩
instance : ScE Str := ⟨fun a r => by obtain ⟨rfl, _, o⟩ := Rp.str r; exact Rep.str a o .nil⟩
instance : ScE Unit := ⟨fun a r => by obtain ⟨rfl, _⟩ := Rp.non r; exact Rep.non .nil⟩
instance {α : Type} [Enc α] [q : ScE α] : ScE (Option α) := ⟨fun a r => match a, r with
  | none, r => by obtain ⟨rfl, _⟩ := Rp.non r; exact Rep.non .nil
  | some a, r => q.sca a r⟩
section
variable {X : Cx} {T α α' β : Type} {l : Lay T} {W : WX} {e : Expr} {es : List Expr} {ea : α → List D} {ea' : α' → List D} {er : β → D} {mr : Md} {fm : α → Res β} {g : T → Res α'} {k : Nat} {f : Addr} {fd : FuncData} {ps : List Str} {dvs : List V} {ds : List Value} {dd : List D} {x : Str} {p pos : Pos}
theorem call_q {fa : α' → α} (hfa : ∀ a, ea (fa a) = ea' a ++ dd) (hdd : ∀ S H, Rep X.K S H dvs dd Emp) (σ : L2.St) (H : Hp) (Q : VK) : tMO X.K l W mr er (fun t => (g t).bind fun a => fm (fa a)) σ H Q → tCallSD (spP X.K l.tabs.pure ea mr er fm) dvs (WE W) (tMA X.K l W ea' g) σ H Q := fun ⟨S, t, P, c, E, q⟩ =>
  ⟨S, t, P, c, E, q.bind.imp (fun a q vs S1 H1 g1 r1 => ⟨S1, fa a, g1.sub.re, by rw [hfa]; exact Rep.appE r1 (hdd S1 H1), RQ.imp q (fun r q v S' H' P1 g2 r2 o2 n2 => q v S' H' P1 (g1.trans g2.re) r2 o2 fun x e => ⟨g1.h.free (n2 x e).1, (n2 x e).2⟩) fun x z S' H' cls d g2 x2 => z S' H' cls d (g1.trans g2.re) x2⟩) fun _ z => z⟩
theorem mo_call {fa : α' → α} (F : FnOk X.prog X.w X.K X.mg X.base (L2.CX X.prog X.w) k f fd ps (spP X.K l.tabs.pure ea mr er fm)) (hr : Room k X.A) (hg : Gl X x) (hm : X.mg x = some (.ref f)) (hk : PySem.W.keepIn X.K (.ref f) = true) (hb : Binds X.K fd ps ds) (hd : Vals dvs ds) (tk : Takes X W)
    (ha : PA X (e :: es) (tMA X.K l W ea' g)) (hfa : ∀ a, ea (fa a) = ea' a ++ dd) (hdd : ∀ S H, Rep X.K S H dvs dd Emp) (hdb : (x == ("__debug__" : Str)) = false := by decide)
    (he : starEach (e :: es) X.env = (false, eval e X.env) :: starEach es X.env := by rfl) (hpl : (backTo pos (starEach es X.env)).any (·.1) = false := by rfl) : PE X (.Call (.Name x p) (e :: es) [] pos) (tMO X.K l W mr er (fun t => (g t).bind fun a => fm (fa a))) :=
  PE.imp (pe_callSD F hr hg hm hk hb hd (fun σ => passAt tk σ) ha hdb he hpl) (call_q hfa hdd)
/-- what is owned is lent: the answer is no object -/
theorem call_qS [sc : Sca er] {fa : α' → α} (hfa : ∀ a, ea (fa a) = ea' a ++ dd) (hdd : ∀ S H, Rep X.K S H dvs dd Emp) (hnd : ∀ a, ND (ea' a)) (σ : L2.St) (H : Hp) (Q : VK) : tME X.K l W er (fun t => (g t).bind fun a => fm (fa a)) σ H Q → tCallSD (spP X.K l.tabs.pure ea mr er fm) dvs (WE W) (tMAB X.K l W ea' g) σ H Q := fun ⟨S, t, P, c, E, q⟩ =>
  ⟨S, t, P, c, E, q.bind.imp (fun a q vs S1 H1 g1 r1 => by
    have c1 := c.grow g1
    have r2 : Rep X.K (frz S1 H1 P) H1 vs (ea' a) Emp := RepB.freeze g1.sub r1 (hnd a) (frz_same g1.sub) (frz_sub0 g1.sub) fun x o hx z => by rw [frz_in hx]; exact z
    refine ⟨frz S1 H1 P, fa a, (frz_sub g1.sub (E.grow g1).ntH).re, by rw [hfa]; exact Rep.appE r2 (hdd _ H1), RQ.imp q (fun r q v S' H' P1 g2 r2 o2 n2 => ?_) fun x z S' H' cls d g2 xr => z (M.unfrz P S') H' cls d (g1.trans (Grow.unfrz (K := X.K) c1 (E.grow g1).tupH (E.grow g1).ntH g2.re).1) (xr.unfrz c1 (E.grow g1) g2.re)⟩
    · exact q v S1 H' (g1.trans ⟨SL.refl S1, rfl, g2.h, g1.sub.sameN g2.h g2.sub.tb, fun x o e => .inl ⟨o, e⟩⟩) (sc.sca r r2)) fun _ z => z⟩
theorem me_callS [sc : Sca er] {fa : α' → α} (F : FnOk X.prog X.w X.K X.mg X.base (L2.CX X.prog X.w) k f fd ps (spP X.K l.tabs.pure ea mr er fm)) (hr : Room k X.A) (hg : Gl X x) (hm : X.mg x = some (.ref f)) (hk : PySem.W.keepIn X.K (.ref f) = true) (hb : Binds X.K fd ps ds) (hd : Vals dvs ds) (tk : Takes X W)
    (ha : PA X (e :: es) (tMAB X.K l W ea' g)) (hfa : ∀ a, ea (fa a) = ea' a ++ dd) (hdd : ∀ S H, Rep X.K S H dvs dd Emp) (hnd : ∀ a, ND (ea' a)) (hdb : (x == ("__debug__" : Str)) = false := by decide)
    (he : starEach (e :: es) X.env = (false, eval e X.env) :: starEach es X.env := by rfl) (hpl : (backTo pos (starEach es X.env)).any (·.1) = false := by rfl) : PE X (.Call (.Name x p) (e :: es) [] pos) (tME X.K l W er (fun t => (g t).bind fun a => fm (fa a))) :=
  PE.imp (pe_callSD F hr hg hm hk hb hd (fun σ => passAt tk σ) ha hdb he hpl) (call_qS hfa hdd hnd)
end
/-! the entry -/
def Lay.none : {T : Type} → Lay T → T
  | _, .nil _ => ()
  | _, .wld _ _ => []
  | _, .rwd _ _ => []
  | _, .cons _ _ _ l => (Option.none, l.none)
/-- no world in it -/
def Lay.noW : {T : Type} → Lay T → Bool
  | _, .nil τ => !τ.w
  | _, .wld _ _ => false
  | _, .rwd _ _ => false
  | _, .cons _ _ _ l => l.noW
theorem Lay.noW_w : ∀ {T : Type} (l : Lay T), l.noW = true → l.tabs.w = false
  | _, .nil τ, h => by
    have h : (!τ.w) = true := h
    show τ.w = false
    simpa using h
  | _, .wld _ _, h => by cases h
  | _, .rwd _ _, h => by cases h
  | _, .cons _ _ _ l, h => Lay.noW_w l h
theorem Env.none {K : PySem.W.Frag} {S : Sh} {H : Hp} {σ : L2.St} : ∀ {T : Type} (l : Lay T), l.noW = true → Env K S H σ l l.none Emp
  | _, .nil _, _ => rfl
  | _, .wld _ _, h => by cases h
  | _, .rwd _ _, h => by cases h
  | _, .cons _ _ _ l, h => Env.none l h
structure Ini {T α : Type} (j : Nat) (l : Lay T) (ea : α → List D) (ini : α → T) : Prop where
  ini : ∀ {K : PySem.W.Frag} {S : Sh} {H : Hp} {pre vs : List V} {r : L2.St} {a : α}, pre.length = j → Rep K S H vs (ea a) Emp → Env K S H (pre.map some ++ (vs.map some ++ r)) l (ini a) Emp
theorem Ini.z {T : Type} {j : Nat} {l : Lay T} (h : l.noW = true := by rfl) : Ini j l nilD (fun _ => l.none) := ⟨fun _ _ => Env.none l h⟩
theorem Ini.k {T α β : Type} {i j : Nat} {m : Md} {en : β → D} {l : Lay T} {ea : α → List D} {ini : α → T} (h : Ini j l ea ini) : Ini j (.cons i m en l) ea (fun a => (none, ini a)) := ⟨fun hj r => h.ini hj r⟩
theorem Ini.s {T α β : Type} {j : Nat} {en : β → D} {l : Lay T} {ea : α → List D} {ini : α → T} (h : Ini (j + 1) l ea ini) : Ini j (.cons j .sh en l) (consD en ea) (fun x => (some x.1, ini x.2)) := ⟨fun {K S H pre vs r a} hj q => by
  obtain ⟨v, us, rfl, r1, r2⟩ := q.splitE
  refine ⟨v, Emp, Emp, ?_, r1, rfl, ?_, fun _ z => z.elim, (fp_eq fun x => ⟨.inl, fun z => z.elim id id⟩)⟩
  · rw [List.getElem?_append_right (by simp [hj])]
    simp [hj]
  · have := h.ini (pre := pre ++ [v]) (vs := us) (r := r) (by simp [hj]) r2
    simpa using this⟩
section
variable {P : Program} {w : World} {K : PySem.W.Frag} {mg : Str → Option Value} {base : Heap} {T α β : Type} {k : Nat} {f : Addr} {fd : FuncData} {x qual : Str} {params : Arguments} {body : List Stmt} {scope : Scope} {dvs : List V} {kws : List (Str × V)} {N ps : List Str} {l : Lay T} {ea : α → List D} {mr : Md} {er : β → D} {F : T → Out T β} {ini : α → T}
def EQF (ok : β → Prop) (ex : Exn → Prop) : Out T β → Prop
  | .rt r _ => ok r
  | .ex e _ => ex e
  | _ => False
def EQU (ok : Unit → Prop) (ex : Exn → Prop) : Out T Unit → Prop
  | .rt r _ => ok r
  | .nx _ => ok ()
  | .ex e _ => ex e
  | _ => False
theorem endF_q {ok : β → Prop} {ex : Exn → Prop} {o : Out T β} (q : RQ (endF o) ok ex) : EQF ok ex o := by cases o <;> exact q
theorem endU_q {ok : Unit → Prop} {ex : Exn → Prop} {o : Out T Unit} (q : RQ (endU o) ok ex) : EQU ok ex o := by cases o <;> exact q
theorem def_ok {n : Nat} (D : FunD K x qual params body scope dvs kws f fd) (Sc : FnScope N ps scope) (hn : N.length = n) (hi : Ini 0 l ea ini) (hl : ∀ a, (ea a).length = ps.length)
    (hb : ∀ (cdv : Value) (A : Around) (outer : List PySem.Env) (s : Shared) (H : Hp) (E : XK), Room k (A.deeper (envOfC qual scope s.heap.objs.size f cdv)) → MSs (cxOf (L2.CX P w) P w K mg base N qual scope f cdv A outer s H E) l n (fun cls d _ H => E cls d H) mr er body F) (hw : l.noW = true := by rfl) :
    FnOk P w K mg base (L2.CX P w) (k + 1) f fd ps (spP K l.tabs ea mr er fun a => endF (F (ini a))) := by
  refine D.ok Sc (fun vs H Q E ⟨S, a, s, r, q⟩ => by rw [r.len, hl]) fun cdv A outer s H vs Q E hr ⟨S, a, sub, r, q⟩ => ⟨_, hb cdv A outer s H E hr, S, ini a, Emp, ⟨sub, fun _ z => z.elim, fun _ z => z.elim⟩, ?_, ?_, ?_⟩
  · have := hi.ini (pre := []) (vs := vs) (r := List.replicate (N.length - vs.length) none) rfl r
    exact this
  · have hv : vs.length = ps.length := by rw [r.len, hl]
    have hle : ps.length ≤ N.length := by
      have := congrArg List.length Sc.pre
      rw [List.length_take] at this
      omega
    unfold L2.start
    simp only [List.length_append, List.length_map, List.length_replicate]
    omega
  · replace q := endF_q (o := F (ini a)) q
    revert q
    generalize F (ini a) = o
    intro q
    cases o with
    | rt r t => exact fun v σ S' H' P' Pr g E r o d => q v S' H' Pr ⟨g.s, g.mu (l.noW_w hw), ⟨fun x o n e => g.keep x o id n e, fun e => (g.free _ e).elim False.elim id⟩, g.cfg.sub, fun x o e => (g.new x o e).elim .inl fun z => z.elim False.elim .inr⟩ r o fun x e => ⟨(g.fp x (.inr e)).elim False.elim id, g.cfg.sep x (.inr e)⟩
    | ex e t => exact fun cls d σ S' H' P' g E hl x => q S' H' cls d ⟨g.s, g.mu (l.noW_w hw), ⟨fun x o n e => g.keep x o id n e, fun e => (g.free _ e).elim False.elim id⟩, g.cfg.sub, fun x o e => (g.new x o e).elim .inl fun z => z.elim False.elim .inr⟩ x
    | nx t => exact q.elim
    | bk t => exact q.elim
    | ct t => exact q.elim
    | stuck => exact q.elim
theorem def_okU {n : Nat} {F : T → Out T Unit} (D : FunD K x qual params body scope dvs kws f fd) (Sc : FnScope N ps scope) (hn : N.length = n) (hi : Ini 0 l ea ini) (hl : ∀ a, (ea a).length = ps.length)
    (hb : ∀ (cdv : Value) (A : Around) (outer : List PySem.Env) (s : Shared) (H : Hp) (E : XK), Room k (A.deeper (envOfC qual scope s.heap.objs.size f cdv)) → MSs (cxOf (L2.CX P w) P w K mg base N qual scope f cdv A outer s H E) l n (fun cls d _ H => E cls d H) .sh (Enc.enc : Unit → M.D) body F) (hw : l.noW = true := by rfl) :
    FnOk P w K mg base (L2.CX P w) (k + 1) f fd ps (spP K l.tabs ea .sh (Enc.enc : Unit → M.D) fun a => endU (F (ini a))) := by
  refine D.ok Sc (fun vs H Q E ⟨S, a, s, r, q⟩ => by rw [r.len, hl]) fun cdv A outer s H vs Q E hr ⟨S, a, sub, r, q⟩ => ⟨_, hb cdv A outer s H E hr, S, ini a, Emp, ⟨sub, fun _ z => z.elim, fun _ z => z.elim⟩, ?_, ?_, ?_⟩
  · have := hi.ini (pre := []) (vs := vs) (r := List.replicate (N.length - vs.length) none) rfl r
    exact this
  · have hv : vs.length = ps.length := by rw [r.len, hl]
    have hle : ps.length ≤ N.length := by
      have := congrArg List.length Sc.pre
      rw [List.length_take] at this
      omega
    unfold L2.start
    simp only [List.length_append, List.length_map, List.length_replicate]
    omega
  · replace q := endU_q (o := F (ini a)) q
    revert q
    generalize F (ini a) = o
    intro q
    have gg : ∀ {S' H' P'}, Grw l.tabs S H Emp S' H' P' → Grow l.tabs S H S' H' := fun g => ⟨g.s, g.mu (l.noW_w hw), ⟨fun x o n e => g.keep x o id n e, fun e => (g.free _ e).elim False.elim id⟩, g.cfg.sub, fun x o e => (g.new x o e).elim .inl fun z => z.elim False.elim .inr⟩
    cases o with
    | rt r t => exact fun v σ S' H' P' Pr g E r o d => q v S' H' Pr (gg g) r o fun x e => ⟨(g.fp x (.inr e)).elim False.elim id, g.cfg.sep x (.inr e)⟩
    | ex e t => exact fun cls d σ S' H' P' g E hl x => q S' H' cls d (gg g) x
    | nx t => exact fun σ S' H' P' g E hl => q .non S' H' Emp (gg g) (Rep.non .nil) rfl fun _ z => z.elim
    | bk t => exact q.elim
    | ct t => exact q.elim
    | stuck => exact q.elim
end
end M

namespace M
open Enc (enc)
open PySem PySem.Spec PyProof.Rows L2 W
/-! ### walks: what a for, a comprehension goes over -/
structure Wk {α : Type} (τ : TL) (K : PySem.W.Frag) (S1 : Sh) (H1 : Hp) (Pw : FP) (ea : α → D) (xs : List α) (J : It) : Prop where
  stop : ∀ {S' : Sh} {H' : Hp}, SL S1 S' → Sub τ S' H' → (∀ x o, Pw x → NT o → H1 x = some o → H' x = some o) → J.stop xs.length H'
  go : ∀ {i : Nat} {S' : Sh} {H' : Hp}, i < xs.length → SL S1 S' → Sub τ S' H' → (∀ x o, Pw x → NT o → H1 x = some o → H' x = some o) → J.go i H'
  yld : ∀ {i : Nat} {S' : Sh} {H' H2 : Hp} {x : V} (hi : i < xs.length), SL S1 S' → Sub τ S' H' → (∀ x o, Pw x → NT o → H1 x = some o → H' x = some o) → J.yld i H' x H2 → ∃ S2, Grow τ S' H' S2 H2 ∧ Rp K S2 H2 x (ea xs[i]) Emp
section
variable {T α : Type} (K : PySem.W.Frag) (l : Lay T) (W : WX)
/-- sh: what is walked is shared -/
def tMI (sh : Bool) (ea : α → D) (f : T → Res (List α)) : TI := fun σ H R => ∃ S t P, Cfg l.tabs S H P ∧ Env K S H σ l t P ∧ RQ (f t) (fun xs => ∀ J S1 H1 Pw, Grow l.tabs S H S1 H1 → Wk l.tabs K S1 H1 Pw ea xs J → (sh = true → Pw = Emp) → (∀ x, Pw x → P x) → R J H1) (ExQ K l.tabs W S H σ)
end
theorem Grw.disj {K : PySem.W.Frag} {S S' : Sh} {H H' : Hp} {σ : L2.St} {T : Type} {l : Lay T} {t : T} {P Q Q' : FP} (E : Env K S H σ l t P) (g : Grw l.tabs S H Q S' H' Q') (d : Disj P Q) (m : S'.mu = S.mu) : Env K S' H' σ l t P := E.frame g.s m fun x o hx n e => g.keep x o (d x hx) n e
section
variable {X : Cx} {T R α β : Type} {l : Lay T} {n : Nat} {W : WX} {mr : Md} {er : R → D} {e iter tg elt : Expr} {ea : α → D} {eb : β → D} {f : T → Res (List α)} {pos : Pos} {F : T → Out T R} {p : T → α → T} {body : List Stmt} {us : List Nat} {sh : Bool}
theorem PI.imp {t t' : TI} (h : PI X tg iter t) (k : ∀ σ H R, t' σ H R → t σ H R) : PI X tg iter t' := ⟨fun pins s σ H Q I z => h.run pins s σ H Q I (k σ H Q z)⟩
theorem mi_list {en : List α → D} (hen : ∀ xs, en xs = .lst (xs.map ea)) (he : PE X iter (tMB X.K l W en f)) : PI X tg iter (tMI X.K l W false ea f) := PI.imp (pi_list he) fun σ H R ⟨S, t, P, c, E, q⟩ => ⟨S, t, P, c, E, q.imp (fun xs q v S1 H1 P1 g r f1 k => by
  rw [hen] at r
  obtain ⟨a, ws, rfl, hs, r1⟩ := Rp.lstF g.sub r f1
  have hlen : ws.length = xs.length := by rw [r1.len, List.length_map]
  have cases' : (P1 = Emp ∧ S1 a = some (.lst ws)) ∨ P1 a := by
    obtain ⟨a', ws', P2, e1, h1, r2, _, ⟨h2, rfl⟩ | ⟨h2, _⟩⟩ := Rp.lst g.sub r
    · cases e1
      rw [hs] at h1
      cases h1
      rcases f1 with f1 | ⟨q, e1, rfl⟩
      · exact .inl ⟨f1, h2⟩
      · exact .inr (by cases e1; rfl)
    · cases e1
      exact .inr h2
  have at_ : ∀ {S' : Sh} {H' : Hp}, SL S1 S' → Sub l.tabs S' H' → (∀ x o, P1 x → NT o → H1 x = some o → H' x = some o) → H' a = some (.lst ws) := fun s h kk => by
    rcases cases' with ⟨_, h2⟩ | h2
    · exact h _ _ (s _ _ h2)
    · exact kk _ _ h2 (fun _ z => nomatch z) hs
  refine ⟨a, rfl, ⟨ws, SqL.of hs⟩, q _ S1 H1 P1 g ⟨fun s h kk => ⟨ws, SqL.of (at_ s h kk), by omega⟩, fun hi s h kk => ?_, fun {i S' H' H2 x} hi s h kk y => ?_⟩ (fun z => nomatch z) k⟩
  · have hi' := hi
    rw [← hlen] at hi'
    exact ⟨ws, ws[_]'hi', SqL.of (at_ s h kk), List.getElem?_eq_getElem hi'⟩
  · obtain ⟨e, y⟩ := y
    subst e
    have y := y ws (SqL.of (at_ s h kk))
    obtain ⟨w, ew, rw'⟩ := Rep.getE r1 (i := i) (d := ea xs[i]) (by rw [List.getElem?_map, List.getElem?_eq_getElem hi]; rfl)
    rw [y] at ew
    cases ew
    exact ⟨S', .refl h, rw'.frame s fun _ _ z => z.elim⟩) fun _ z => z⟩
theorem mi_listS {en : List α → D} (hen : ∀ xs, en xs = .lst (xs.map ea)) (he : PE X iter (tME X.K l W en f)) : PI X tg iter (tMI X.K l W true ea f) := PI.imp (pi_list he) fun σ H R ⟨S, t, P, c, E, q⟩ => ⟨S, t, P, c, E, q.imp (fun xs q v S1 H1 g r => by
  rw [hen] at r
  obtain ⟨a, ws, P1, rfl, hs, r1, _, ⟨h2, rfl⟩ | ⟨h2, _⟩⟩ := Rp.lst g.sub r
  case inr => exact h2.elim
  have hlen : ws.length = xs.length := by rw [r1.len, List.length_map]
  have at_ : ∀ {S' : Sh} {H' : Hp}, SL S1 S' → Sub l.tabs S' H' → H' a = some (.lst ws) := fun s h => h _ _ (s _ _ h2)
  refine ⟨a, rfl, ⟨ws, SqL.of hs⟩, q _ S1 H1 Emp g ⟨fun s h kk => ⟨ws, SqL.of (at_ s h), by omega⟩, fun hi s h kk => ?_, fun {i S' H' H2 x} hi s h kk y => ?_⟩ (fun _ => rfl) fun _ z => z.elim⟩
  · have hi' := hi
    rw [← hlen] at hi'
    exact ⟨ws, ws[_]'hi', SqL.of (at_ s h), List.getElem?_eq_getElem hi'⟩
  · obtain ⟨e, y⟩ := y
    subst e
    have y := y ws (SqL.of (at_ s h))
    obtain ⟨w, ew, rw'⟩ := Rep.getE r1 (i := i) (d := ea xs[i]) (by rw [List.getElem?_map, List.getElem?_eq_getElem hi]; rfl)
    rw [y] at ew
    cases ew
    exact ⟨S', .refl h, rw'.frame s fun _ _ z => z.elim⟩) fun _ z => z⟩
/-- the script itself -/
theorem mi_scr {f : T → Res Scr} (he : PE X iter (tME X.K l W (Enc.enc : Scr → D) f)) : PI X tg iter (tMI X.K l W true eI (op1 (fun s => .ok s.ns) f)) := PI.imp (pi_list he) fun σ H R ⟨S, t, P, c, E, q⟩ => ⟨S, t, P, c, E, q.bind.imp (fun xs q v S1 H1 g r => by
  obtain ⟨a, ws, rfl, h2, r1⟩ := Rp.scr r
  have hlen : ws.length = xs.ns.length := by rw [r1.len, List.length_map]
  have at_ : ∀ {S' : Sh} {H' : Hp}, SL S1 S' → Sub l.tabs S' H' → SqL X.K H' a ws := fun s h => h.seq (s.seq h2)
  refine ⟨a, rfl, ⟨ws, g.sub.seq h2⟩, (show ∀ J S1 H1 Pw, Grow l.tabs S H S1 H1 → Wk l.tabs X.K S1 H1 Pw eI xs.ns J → (true = true → Pw = Emp) → (∀ x, Pw x → P x) → R J H1 from q) _ S1 H1 Emp g ⟨fun s h kk => ⟨ws, at_ s h, by omega⟩, fun hi s h kk => ?_, fun {i S' H' H2 x} hi s h kk y => ?_⟩ (fun _ => rfl) fun _ z => z.elim⟩
  · have hi' := hi
    rw [← hlen] at hi'
    exact ⟨ws, ws[_]'hi', at_ s h, List.getElem?_eq_getElem hi'⟩
  · obtain ⟨e, y⟩ := y
    subst e
    have y := y ws (at_ s h)
    obtain ⟨w, ew, rw'⟩ := Rep.getE r1 (i := i) (d := eI xs.ns[i]) (by rw [List.getElem?_map, List.getElem?_eq_getElem hi]; rfl)
    rw [y] at ew
    cases ew
    exact ⟨S', .refl h, rw'.frame s fun _ _ z => z.elim⟩) fun _ z => z⟩
theorem wk_range {τ : TL} {K : PySem.W.Frag} {S1 : Sh} {H1 : Hp} {lo hi : Int} : Wk τ K S1 H1 Emp eI ((List.range (hi - lo).toNat).map fun (k : Nat) => lo + (k : Int)) (Itr lo (hi - lo).toNat) := ⟨fun _ _ _ => by
    show (hi - lo).toNat ≤ _
    simp, fun h _ _ _ => by
    simp only [List.length_map, List.length_range] at h
    exact h, fun {i S' H' H2 x} h s sub _ y => by
    obtain ⟨rfl, rfl⟩ := y
    exact ⟨S', .refl sub, by simp only [List.getElem_map, List.getElem_range]; exact Rep.int _ .nil⟩⟩
theorem mi_range1 {a : Expr} {pp : Pos} {g : T → Res Int} (hg : Gl X "range") (hm : X.mg "range" = none) (ha : PE X a (tME X.K l W eI g)) (hs : starEach [a] X.env = [(false, eval a X.env)] := by rfl) (hs1 : starEach [a] X.env = (false, eval a X.env) :: starEach [] X.env := by rfl) : PI X tg (.Call (.Name "range" pp) [a] [] pos) (tMI X.K l W true eI (op1 (rng 0) g)) :=
  PI.imp (pi_range1 hg hm (ma_cons ha ma_nil hs1) hs) fun σ H R ⟨S, t, P, c, E, q⟩ => ⟨S, t, P, c, E, by
    have q2 := q.bind
    refine (show RQ ((g t).bind fun a => (Res.ok ()).bind fun b => Res.ok (a, b)) _ _ from ?_)
    cases e : g t with
    | stuck => rw [e] at q2; exact q2.elim
    | ex x => rw [e] at q2; exact q2
    | ok j =>
      rw [e] at q2
      obtain ⟨hc, q2⟩ := RQ.chk q2
      have hc := of_decide_eq_true hc
      intro vs S' H' g' r
      obtain ⟨v, us, rfl, r1, r2⟩ := r.splitE
      obtain ⟨rfl, _⟩ := r2.nilP
      obtain ⟨rfl, _⟩ := Rp.int r1
      refine ⟨j, rfl, hc.2.2.1, hc.2.2.2, ?_⟩
      have h := q2 (Itr 0 (j - 0).toNat) S' H' Emp g' wk_range (fun _ => rfl) fun _ z => z.elim
      rw [Int.sub_zero] at h
      exact h⟩
theorem mi_range2 {a b : Expr} {pp : Pos} {g k : T → Res Int} (hg : Gl X "range") (hm : X.mg "range" = none) (ha : PE X a (tME X.K l W eI g)) (hb : PE X b (tME X.K l W eI k)) (hs : starEach [a, b] X.env = [(false, eval a X.env), (false, eval b X.env)] := by rfl) (hs2 : starEach [b] X.env = [(false, eval b X.env)] := by rfl)
    (hs3 : starEach [a, b] X.env = (false, eval a X.env) :: starEach [b] X.env := by rfl) (hs4 : starEach [b] X.env = (false, eval b X.env) :: starEach [] X.env := by rfl) : PI X tg (.Call (.Name "range" pp) [a, b] [] pos) (tMI X.K l W true eI (op2 rng g k)) :=
  PI.imp (pi_range2 hg hm (ma_cons ha (ma_cons hb ma_nil hs4) hs3) hs hs2) fun σ H R ⟨S, t, P, c, E, q⟩ => ⟨S, t, P, c, E, by
    have q2 := q.bind
    refine (show RQ ((g t).bind fun a => ((k t).bind fun b => (Res.ok ()).bind fun c => Res.ok (b, c)).bind fun b => Res.ok (a, b)) _ _ from ?_)
    cases e : g t with
    | stuck => rw [e] at q2; exact q2.elim
    | ex x => rw [e] at q2; exact q2
    | ok i =>
      rw [e] at q2
      have q2 := RQ.bind q2
      cases e2 : k t with
      | stuck => rw [e2] at q2; exact q2.elim
      | ex x => rw [e2] at q2; exact q2
      | ok j =>
        rw [e2] at q2
        obtain ⟨hc, q2⟩ := RQ.chk q2
        have hc := of_decide_eq_true hc
        intro vs S' H' g' r
        obtain ⟨v, us, rfl, r1, r2⟩ := r.splitE
        obtain ⟨v2, us, rfl, r2, r3⟩ := r2.splitE
        obtain ⟨rfl, _⟩ := r3.nilP
        obtain ⟨rfl, _⟩ := Rp.int r1
        obtain ⟨rfl, _⟩ := Rp.int r2
        exact ⟨i, j, rfl, hc, q2 (Itr i (j - i).toNat) S' H' Emp g' wk_range (fun _ => rfl) fun _ z => z.elim⟩⟩
/-! for -/
theorem ms_forI (hp : PassesOwn (model X.prog X.w) X.A X.env X.xe) (hc : X.calm = true) (hi : PI X tg iter (tMI X.K l W true ea f)) (hg : PG X tg (tMG X.K l n us ea p)) (hb : MSs X l n W mr er body F) (hfs : ∀ x, foldedSetIterable iter X.env x = pure x := by intro _; rfl) :
    MS X l n W mr er (.For tg iter body [] pos) (forS f p F) := PS.imp (ps_for hp hc hi hg hb hfs) fun D σ H ⟨S, t, P, c, E, hl, q⟩ =>
  ⟨S, t, P, c, E, andS_q c E hl q fun xs q J S1 H1 Pw g wk hsh _ => by
    obtain rfl := hsh rfl
    refine ⟨fun i m σ' H' => m = xs.length - i ∧ i ≤ xs.length ∧ ∃ S' t' P', Grw l.tabs S1 H1 P S' H' P' ∧ Env X.K S' H' σ' l t' P' ∧ σ'.length = n ∧ OQ X.K l n W mr er S' H' P' D (loopL p F (xs.drop i) t'),
      ⟨_, rfl, Nat.zero_le _, S1, t, P, .refl (c.grow g), E.grow g, hl, OQ.trans q (g.grw c)⟩, ?_⟩
    rintro i m σ' H' ⟨rfl, hle, S', t', P', g', E', hl', q'⟩
    by_cases hi : i < xs.length
    · refine .inr ⟨wk.go hi g'.s g'.cfg.sub fun _ _ z => z.elim, fun σ3 H3 => ∃ S3 t3 P3, Grw l.tabs S1 H1 P S3 H3 P3 ∧ Env X.K S3 H3 σ3 l t3 P3 ∧ σ3.length = n ∧ OQ X.K l n W mr er S3 H3 P3 D (loopL p F (xs.drop (i + 1)) t3), fun σ3 H3 z => ⟨_, ?_, rfl, hi, z⟩, fun x H2 y => ?_⟩
      · omega
      obtain ⟨S2, gy, ry⟩ := wk.yld hi g'.s g'.cfg.sub (fun _ _ z => z.elim) y
      rw [List.drop_eq_getElem_cons hi] at q'
      have gg := gy.grw g'.cfg
      refine ⟨S2, t', P', xs[i], gg.cfg, E'.grow gy, hl', ry, fun σ2 P2 E2 k2 hl2 _ => ⟨S2, _, P2, gg.cfg.mono k2, E2, hl2, ?_⟩⟩
      have g2 : Grw l.tabs S' H' P' S2 H2 P2 := gg.less k2
      unfold loopL at q'
      cases e : F (p t' xs[i]) with
      | nx t3 => rw [e] at q'; exact fun σ3 S3 H3 P3 g3 E3 hl3 => ⟨S3, t3, P3, g'.trans (g2.trans g3), E3, hl3, OQ.trans q' (g2.trans g3)⟩
      | ct t3 => rw [e] at q'; exact fun σ3 S3 H3 P3 g3 E3 hl3 => ⟨S3, t3, P3, g'.trans (g2.trans g3), E3, hl3, OQ.trans q' (g2.trans g3)⟩
      | bk t3 => rw [e] at q'; exact fun σ3 S3 H3 P3 g3 E3 hl3 => q' σ3 S3 H3 P3 (g2.trans g3) E3 hl3
      | rt r t3 => rw [e] at q'; exact fun v σ3 S3 H3 P3 Pr g3 => q' v σ3 S3 H3 P3 Pr (g2.trans g3)
      | ex x t3 => rw [e] at q'; exact fun cls d σ3 S3 H3 P3 g3 => q' cls d σ3 S3 H3 P3 (g2.trans g3)
      | stuck => rw [e] at q'; exact q'
    · have e : i = xs.length := by omega
      subst e
      refine .inl ⟨wk.stop g'.s g'.cfg.sub fun _ _ z => z.elim, ?_⟩
      rw [List.drop_length] at q'
      exact q' σ' S' H' P' (.refl g'.cfg) E' hl'⟩
/-! list comprehensions -/
theorem lcR_nox {xs : List α} {c : α → Res Bool} {h : α → Res β} : NoX (lcR xs c h) := by
  have ns : ∀ {γ : Type} (r : Res γ) (e : Exn), r.str ≠ .ex e := fun r e => by cases r <;> exact fun z => nomatch z
  induction xs with
  | nil => exact fun e z => nomatch z
  | cons x xs ih =>
    intro e
    unfold lcR
    cases h1 : (c x).str with
    | stuck => exact fun z => nomatch z
    | ex y => exact absurd h1 (ns _ _)
    | ok b =>
      cases b with
      | false => exact ih e
      | true =>
        cases h2 : (h x).str with
        | stuck => exact fun z => nomatch z
        | ex y => exact absurd h2 (ns _ _)
        | ok y =>
          cases h3 : lcR xs c h with
          | stuck => exact fun z => by simp at z
          | ex z => exact absurd h3 (ih z)
          | ok ys => exact fun z => by simp at z
theorem str_eq {γ : Type} {r : Res γ} {a : γ} (h : r.str = .ok a) : r = .ok a := by cases r <;> first | exact h | cases h
theorem lcR_cons {x : α} {xs : List α} {c : α → Res Bool} {h : α → Res β} {zs : List β} (e : lcR (x :: xs) c h = .ok zs) : ∃ b, c x = .ok b ∧ (b = true → ∃ y ys, h x = .ok y ∧ lcR xs c h = .ok ys ∧ zs = y :: ys) ∧ (b = false → lcR xs c h = .ok zs) := by
  unfold lcR at e
  cases h1 : (c x).str with
  | stuck => rw [h1] at e; cases e
  | ex y => rw [h1] at e; cases e
  | ok b =>
    rw [h1] at e
    refine ⟨b, str_eq h1, fun hb => ?_, fun hb => ?_⟩
    · subst hb
      simp only [bind_ok, if_true] at e
      cases h2 : (h x).str with
      | stuck => rw [h2] at e; cases e
      | ex y => rw [h2] at e; cases e
      | ok y =>
        rw [h2] at e
        simp only [bind_ok] at e
        cases h3 : lcR xs c h with
        | stuck => rw [h3] at e; cases e
        | ex z => rw [h3] at e; cases e
        | ok ys =>
          rw [h3] at e
          cases e
          exact ⟨y, ys, str_eq h2, rfl, rfl⟩
    · subst hb
      simpa using e
/-- the comprehension's own names, forgotten -/
structure Wip (l : Lay T) (us : List Nat) (w : T → T) : Prop where
  wip : ∀ {K : PySem.W.Frag} {S : Sh} {H : Hp} {σ : L2.St} {t : T} {P : FP}, Env K S H σ l t P → ∃ P', Env K S H (wipe σ us) l (w t) P' ∧ ∀ x, P' x → P x
theorem Wip.nil {τ : TL} : Wip (Lay.nil τ) us id := ⟨fun {K S H σ t P} e => ⟨P, e, fun _ z => z⟩⟩
theorem Wip.keep {β : Type} {l : Lay T} {j : Nat} {m' : Md} {en' : β → D} {w : T → T} (q : Wip l us w) (hj : decide (j ∈ us) = false := by decide) : Wip (.cons j m' en' l) us (fun t => (t.1, w t.2)) := ⟨fun {K S H σ t P} e => by
  obtain ⟨x, t⟩ := t
  cases x with
  | none => exact q.wip (t := t) e
  | some b =>
    obtain ⟨v, P1, P2, h, r, o, e2, dj, rfl⟩ := e
    obtain ⟨P', e3, k⟩ := q.wip e2
    exact ⟨_, ⟨v, P1, P', by rw [wipe_get, if_neg (of_decide_eq_false hj)]; exact h, r, o, e3, fun x z y => dj x z (k x y), rfl⟩, fun x z => z.elim .inl fun z => .inr (k x z)⟩⟩
theorem Wip.drop {β : Type} {l : Lay T} {j : Nat} {m' : Md} {en' : β → D} {w : T → T} (q : Wip l us w) : Wip (.cons j m' en' l) us (fun t => (none, w t.2)) := ⟨fun {K S H σ t P} e => by
  obtain ⟨x, t⟩ := t
  cases x with
  | none => exact q.wip (t := t) e
  | some b =>
    obtain ⟨v, P1, P2, h, r, o, e2, dj, rfl⟩ := e
    obtain ⟨P', e3, k⟩ := q.wip e2
    exact ⟨P', e3, fun x z => .inr (k x z)⟩⟩
theorem wipe_wipe {σ : L2.St} : wipe (wipe σ us) us = wipe σ us := by
  apply List.ext_getElem?
  intro j
  rw [wipe_get, wipe_get]
  by_cases hj : j ∈ us
  · rw [if_pos hj, if_pos hj, Option.map_map]
    rfl
  · rw [if_neg hj, if_neg hj]
theorem lc_core {w : T → T} {c : T → Res Bool} {h : T → Res β} {en : List β → D} (hen : ∀ xs, en xs = .lst (xs.map eb)) (wp : Wip l us w) (σ : L2.St) (H : Hp) (Q : VK) (hn : σ.length = n) {S : Sh} {t : T} {P : FP} (cf : Cfg l.tabs S H P) (E : Env X.K S H σ l t P)
    (q : RQ (lcE f w p c h t) (fun a => ∀ v S' H' P1, Grow l.tabs S H S' H' → Rp X.K S' H' v (en a) P1 → Md.ow.ok v P1 → (∀ x, P1 x → H x = none ∧ S' x = none) → Q v H') (ExQ X.K l.tabs W S H σ)) :
    tLc (fun _ _ R => RQ (f t) (fun xs => ∀ J S1 H1 Pw, Grow l.tabs S H S1 H1 → Wk l.tabs X.K S1 H1 Pw ea xs J → (sh = true → Pw = Emp) → (∀ x, Pw x → P x) → R J H1) (ExQ X.K l.tabs W S H σ)) (tMG X.K l n us ea p) (tMT X.K l W0 c) (tME X.K l W0 eb h) us σ H Q :=
  (RQ.bind (k := fun xs => (lcR xs (fun a => c (p (w t) a)) (fun a => h (p (w t) a))).bind sizeL) q).imp (fun xs q J S1 H1 Pw g wk _ hPw => by
    intro Dd hD
    have q := (RQ.bind q)
    have q := RQ.nox q lcR_nox
    obtain ⟨ys, eys, q⟩ : ∃ ys, lcR xs (fun a => c (p (w t) a)) (fun a => h (p (w t) a)) = .ok ys ∧ RQ (sizeL ys) (fun a => ∀ v S' H' P1, Grow l.tabs S H S' H' → Rp X.K S' H' v (en a) P1 → Md.ow.ok v P1 → (∀ x, P1 x → H x = none ∧ S' x = none) → Q v H') (ExQ X.K l.tabs W S H σ) := by
      cases e : lcR xs (fun a => c (p (w t) a)) (fun a => h (p (w t) a)) with
      | stuck => rw [e] at q; exact q.elim
      | ex z => rw [e] at q; exact q.elim
      | ok ys =>
        rw [e] at q
        exact ⟨ys, rfl, q⟩
    obtain ⟨hsz, q⟩ := RQ.chk q
    have hsz : ys.length ≤ sizeLine := of_decide_eq_true hsz
    have cD : Cfg l.tabs S1 (upd H1 Dd (.lst [])) (fun x => x = Dd) := ⟨g.sub.same (same_new hD), fun x e => e ▸ g.sub.free hD, fun x e => e ▸ ⟨_, upd_same⟩⟩
    have cP := cf.grow g
    have nP : ∀ x, P x → x ≠ Dd := fun x hx e => by
      obtain ⟨o, ho⟩ := cP.inh x hx
      rw [e, hD] at ho
      cases ho
    obtain ⟨P0, E0, k0⟩ := wp.wip (E.grow g)
    refine ⟨fun i m H' => m = xs.length - i ∧ i ≤ xs.length ∧ ∃ S' acc os ys', S'.mu = S1.mu ∧ Grw l.tabs S1 (upd H1 Dd (.lst [])) (fun x => x = Dd) S' H' (fun x => x = Dd) ∧ H' Dd = some (.lst acc) ∧ Rep X.K S' H' acc (os.map eb) Emp ∧ lcR (xs.drop i) (fun a => c (p (w t) a)) (fun a => h (p (w t) a)) = .ok ys' ∧ os ++ ys' = ys,
      ⟨_, rfl, Nat.zero_le _, S1, [], [], ys, rfl, .refl cD, upd_same, .nil, eys, rfl⟩, ?_⟩
    rintro i m H' ⟨rfl, hle, S', acc, os, ys', mD, gD, eD, rA, er, eo⟩
    have keepH : ∀ x o, x ≠ Dd → NT o → H1 x = some o → H' x = some o := fun x o ne n e => gD.keep x o ne n (by rw [upd_ne ne]; exact e)
    have keepW : ∀ x o, Pw x → NT o → H1 x = some o → H' x = some o := fun x o hx n e => keepH x o (nP x (hPw x hx)) n e
    by_cases hi : i < xs.length
    · refine .inr ⟨wk.go hi gD.s gD.cfg.sub keepW, fun H3 => ∃ S3 acc os ys', S3.mu = S1.mu ∧ Grw l.tabs S1 (upd H1 Dd (.lst [])) (fun x => x = Dd) S3 H3 (fun x => x = Dd) ∧ H3 Dd = some (.lst acc) ∧ Rep X.K S3 H3 acc (os.map eb) Emp ∧ lcR (xs.drop (i + 1)) (fun a => c (p (w t) a)) (fun a => h (p (w t) a)) = .ok ys' ∧ os ++ ys' = ys, fun H3 z => ⟨_, ?_, rfl, hi, z⟩, fun x H2 y => ?_⟩
      · omega
      rw [List.drop_eq_getElem_cons hi] at er
      obtain ⟨b, ec, ht, hf⟩ := lcR_cons er
      obtain ⟨S2, gy, ry⟩ := wk.yld hi gD.s gD.cfg.sub keepW y
      have E2 : Env X.K S' H' (wipe σ us) l (w t) P0 := E0.frame gD.s mD fun x o hx n e => keepH x o (nP x (k0 x hx)) n e
      have c2 : Cfg l.tabs S' H' P0 := by
        refine ⟨gD.cfg.sub, fun x hx => ?_, E2.inH⟩
        cases z : S' x with
        | none => rfl
        | some o =>
          have hx := k0 x hx
          rcases gD.new x o z with ⟨u, z2⟩ | z2 | z2
          · rw [cP.sep x hx] at z2
            cases z2
          · exact absurd z2 (nP x hx)
          · rw [upd_ne (nP x hx)] at z2
            obtain ⟨o2, h2⟩ := cP.inh x hx
            rw [h2] at z2
            cases z2
      refine ⟨S2, w t, P0, xs[i], c2.grow gy, E2.grow gy, by rw [wipe_length]; exact hn, ry, fun σ2 P2 E3 k2 hl2 hw2 => ⟨by rw [hw2, wipe_wipe], S2, p (w t) xs[i], P2, (c2.grow gy).mono k2, E3, ?_⟩⟩
      show RQ (c (p (w t) xs[i])) _ _
      rw [ec]
      intro S3 H3 g3
      have gA := gy.trans g3
      cases b with
      | false =>
        rw [if_neg (by decide)]
        exact ⟨S3, acc, os, ys', gA.mu.trans mD, gD.trans (gA.grw gD.cfg), gA.h.lst eD, rA.grow gA, hf rfl, eo⟩
      | true =>
        rw [if_pos rfl]
        obtain ⟨y1, ys1, e1, e2, e3⟩ := ht rfl
        subst e3
        refine ⟨S3, p (w t) xs[i], P2, ((c2.grow gy).mono k2).grow g3, E3.grow g3, ?_⟩
        rw [e1]
        intro v S4 H4 g4 r4
        have gB := gA.trans g4
        have eD4 := gB.h.lst eD
        have hal : acc.length = os.length := by rw [rA.len, List.length_map]
        refine ⟨acc, eD4, ?_, S4, acc ++ [v], os ++ [y1], ys1, gB.mu.trans mD, ?_, upd_same, ?_, e2, by rw [← eo]; simp⟩
        · have := congrArg List.length eo
          simp only [List.length_append, List.length_cons] at this
          omega
        · have gC := gD.trans (gB.grw gD.cfg)
          refine gC.trans ⟨SL.refl S4, fun _ => rfl, ⟨⟨fun x o z => ?_, gC.cfg.sub.nt, tabs_upd gC.cfg.sub.tb eD4 .lst⟩, gC.cfg.sep, fun x z => z ▸ ⟨_, upd_same⟩⟩, fun x o nx _ z => by rw [upd_ne nx]; exact z, fun x z => .inl z, fun x o z => .inl ⟨o, z⟩, fun x z => by
            by_cases ne : x = Dd
            · exact .inl ne
            · rw [upd_ne ne] at z
              exact .inr z⟩
          have ne : x ≠ Dd := fun e => by rw [e, gC.cfg.sep Dd rfl] at z; cases z
          rw [upd_ne ne]
          exact gC.cfg.sub _ _ z
        · rw [List.map_append]
          exact Rep.frame (Rep.appE (rA.grow gB) r4) (SL.refl S4) fun _ _ z => z.elim
    · have e : i = xs.length := by omega
      subst e
      rw [List.drop_length] at er
      cases er
      rw [List.append_nil] at eo
      subst eo
      refine .inl ⟨wk.stop gD.s gD.cfg.sub keepW, q _ S' H' (fun x => x = Dd) (g.trans ⟨gD.s, mD, ⟨fun x o n z => keepH x o (fun e => by rw [e, hD] at z; cases z) n z, fun {x} z => by
          rcases gD.free x z with e | e
          · exact e ▸ hD
          · by_cases ne : x = Dd
            · exact ne ▸ hD
            · rw [upd_ne ne] at e
              exact e⟩, gD.cfg.sub, fun x o z => ?_⟩) ?_ ⟨Dd, rfl, rfl⟩ fun x e => ⟨e ▸ g.h.free hD, gD.cfg.sep x e⟩⟩
      · rcases gD.new x o z with ⟨u, z2⟩ | z2 | z2
        · exact .inl ⟨u, z2⟩
        · exact .inr (z2 ▸ hD)
        · right
          by_cases hx : x = Dd
          · exact hx ▸ hD
          · rw [upd_ne hx] at z2
            exact z2
      · rw [hen]
        exact (Rep.owl eD rA .nil (fun z => z) (fun z => z) fun _ z => z.elim).cast fun x => ⟨fun z => z.elim id fun z => z.elim False.elim False.elim, .inl⟩) fun _ z => z
theorem lc_q {w : T → T} {c : T → Res Bool} {h : T → Res β} {en : List β → D} (hen : ∀ xs, en xs = .lst (xs.map eb)) (wp : Wip l us w) (σ : L2.St) (H : Hp) (Q : VK) (hn : σ.length = n) :
    tMO X.K l W .ow en (lcE f w p c h) σ H Q → tLc (tMI X.K l W sh ea f) (tMG X.K l n us ea p) (tMT X.K l W0 c) (tME X.K l W0 eb h) us σ H Q := fun ⟨S, t, P, cf, E, q⟩ => ⟨S, t, P, cf, E, lc_core hen wp σ H Q hn cf E q⟩
theorem PE.impL {e : Expr} {t t' : TE} (h : PE X e t) (k : ∀ σ H Q, σ.length = X.N.length → t' σ H Q → t σ H Q) : PE X e t' := ⟨fun pins s σ H Q I z => h.run pins s σ H Q I (k σ H Q I.len z)⟩
theorem PS.impL {e : Stmt} {t t' : TS} (h : PS X e t) (k : ∀ D σ H, t' D σ H → t D σ H) : PS X e t' := ⟨fun pins s σ H Q I z => h.run pins s σ H Q I (k Q σ H z)⟩
theorem PTs.imp {ifs : List Expr} {t t' : TT} (h : PTs X ifs t) (k : ∀ σ H Q, t' σ H Q → t σ H Q) : PTs X ifs t' := ⟨fun pins s σ H Q I z => h.run pins s σ H Q I (k σ H Q z)⟩
theorem mts_nil : PTs X [] (tMT X.K l W fun _ => .ok true) := PTs.imp pts_nil fun σ H Q ⟨S, t, P, c, E, q⟩ => q S H (.refl c.sub)
theorem mts_one {c : Expr} {b : T → Res Bool} (h : PT X c (tMT X.K l W b)) : PTs X [c] (tMT X.K l W b) := pts_one h
section
variable {ifs : List Expr} {scope : Scope} {own : List (Str × Nat)} {w : T → T} {c : T → Res Bool} {h : T → Res β} {en : List β → D}
theorem mo_lc (hc : X.calm = true) (hN : X.N.Nodup) (hn : X.N.length = n) (hen : ∀ xs, en xs = .lst (xs.map eb)) (hi : PI X tg iter (tMI X.K l W sh ea f)) (ok : BlkOk X.N X.env.scope scope own) (wp : Wip l (own.map (·.2)) w)
    (hg : ∀ (s : Shared) (H : Hp) (C : Addr) (cl : List (Str × Addr)) (fp : List Addr), PG (X.blk s H scope (compEnvC scope cl C X.env) fp) tg (tMG X.K l n (own.map (·.2)) ea p)) (ht : ∀ (s : Shared) (H : Hp) (C : Addr) (cl : List (Str × Addr)) (fp : List Addr), PTs (X.blk s H scope (compEnvC scope cl C X.env) fp) ifs (tMT X.K l W0 c))
    (he : ∀ (s : Shared) (H : Hp) (C : Addr) (cl : List (Str × Addr)) (fp : List Addr), PE (X.blk s H scope (compEnvC scope cl C X.env) fp) elt (tME X.K l W0 eb h)) (hs : ∀ x, foldedSetIterable iter X.env x = pure x := by intro _; rfl) :
    PE X (.ListComp elt [⟨tg, iter, ifs, 0⟩] scope pos) (tMO X.K l W .ow en (lcE f w p c h)) := PE.impL (pe_lc hc hN hi ok hg ht he hs) fun σ H Q hl => lc_q hen wp σ H Q (hl.trans hn)
end
end
end M

namespace M
open Enc (enc)
open PySem PySem.Spec PyProof.Rows L2 W
/-! ### lists that are owned: append, pop, clear, extend -/
section
variable {X : Cx} {T R α β : Type} {l : Lay T} {n : Nat} {W : WX} {mr : Md} {er : R → D} {e o : Expr} {ea : α → D} {en : List α → D} {f : T → Res α} {pos cpos apos : Pos} {get : T → Option (List α)} {put : T → Option (List α) → T} {i : Nat} {S S' : Sh} {H H' : Hp} {P : FP} {σ : L2.St} {t : T} {xs : List α}
theorem own_at (k : Tak l i .ow en get put) (hen : ∀ xs, en xs = .lst (xs.map ea)) (c : Cfg l.tabs S H P) (E : Env X.K S H σ l t P) (hg : get t = some xs) (g : Grow l.tabs S H S' H') :
    ∃ p ws, σ[i]? = some (some (.ref p)) ∧ H p = some (.lst ws) ∧ H' p = some (.lst ws) ∧ P p ∧ ws.length = xs.length ∧ Rep X.K S' H' ws (xs.map ea) Emp ∧
      ∀ ws' xs' S2 H2, Grow l.tabs S' H' S2 H2 → Rep X.K S2 H2 ws' (xs'.map ea) Emp → Grw l.tabs S H P S2 (upd H2 p (.lst ws')) P ∧ Env X.K S2 (upd H2 p (.lst ws')) σ l (put t (some xs')) P := by
  obtain ⟨v, P1, P2, hs, r, ⟨p, rfl, rfl⟩, E2, dj, rfl⟩ := k.tak E hg
  rw [hen] at r
  obtain ⟨p', ws, e1, h, r1⟩ := Rp.lstF c.sub r (.inr ⟨p, rfl, rfl⟩)
  cases e1
  have c' := c.grow g
  refine ⟨p, ws, hs, h, g.h.lst h, .inl rfl, by rw [r1.len, List.length_map], r1.grow g, fun ws' xs' S2 H2 g2 r2 => ?_⟩
  have gg := g.trans g2
  have c2 := c.grow gg
  have gu : Grw l.tabs S2 H2 _ S2 (upd H2 p (.lst ws')) _ := Grw.upd c2 (.inl rfl) (gg.h.lst h) .lst
  have keep : ∀ x o, P2 x → NT o → H2 x = some o → upd H2 p (.lst ws') x = some o := fun x o hx _ z => by
    rw [upd_ne (fun (e : x = p) => dj p rfl (by rw [← e]; exact hx))]
    exact z
  have E3 : Env X.K S2 (upd H2 p (.lst ws')) σ l (put t none) P2 := (E2.grow gg).frame (SL.refl S2) rfl keep
  have r3 : Rp X.K S2 (upd H2 p (.lst ws')) (.ref p) (en xs') (fun x => x = p) := by
    rw [hen]
    exact (Rep.owl upd_same (Rep.frame r2 (SL.refl S2) fun _ _ z => z.elim) .nil (fun z => z) (fun z => z) fun _ z => z.elim).cast fun x => ⟨fun z => z.elim id fun z => z.elim False.elim False.elim, .inl⟩
  exact ⟨(gg.grw c).trans gu, k.bak E3 hs r3 ⟨p, rfl, rfl⟩ dj⟩
/-- x.append(e), x a name's own list -/
theorem ms_append (k : Tak l i .ow en get put) (hen : ∀ xs, en xs = .lst (xs.map ea)) (hv : PE X o (tVar i)) (he : PE X e (tME X.K l W ea f)) (hbase : attributeBase o "append" X.env (eval o X.env) = eval o X.env := by rfl)
    (hfew : ((backTo cpos (starEach [e] X.env)).all (fun x => !x.1) && (backToKw cpos (keywordEach [] X.env)).all (fun x => x.1.isSome) && decide (([e] : List Expr).length + ([] : List Keyword).length + (if ([] : List Keyword).isEmpty then 0 else 1) < 30)) = true := by rfl)
    (hline : (apos.endLine == cpos.line) = true := by rfl) (hs : starEach [e] X.env = (false, eval e X.env) :: starEach [] X.env := by rfl) (hplain : (backTo cpos (starEach [] X.env)).any (·.1) = false := by rfl)
    (hsw : swapsWith (.Call (.Attribute o "append" apos) [e] [] cpos) none pos.line X.env = pure false := by rfl) : MS X l n W mr er (.Expr (.Call (.Attribute o "append" apos) [e] [] cpos) pos) (appF get put f) :=
  PS.imp (ps_expr (pe_bm PySem.F.plainAttrs_list PySem.F.slot_list_append PySem.F.type_list_append mt_append hv (pa_cons he pa_nil hs) hbase hfew hline hs hplain) hsw) fun D σ H ⟨S, t, P, c, E, hl, q⟩ => by
    unfold appF at q
    cases hg : get t with
    | none =>
      rw [hg] at q
      exact q.elim
    | some xs =>
      rw [hg] at q
      obtain ⟨p, ws, hσ, hp, _, _, hlen, _, _⟩ := own_at k hen c E hg (.refl c.sub)
      refine ⟨_, hσ, .inl ⟨rfl, ws, SqL.of hp⟩, S, t, P, c, E, ?_⟩
      cases hf : f t with
      | stuck =>
        rw [hf] at q
        exact q.elim
      | ex x =>
        rw [hf] at q
        exact ex_of c E hl q
      | ok a =>
        rw [hf] at q
        intro v S' H' g r
        obtain ⟨p', ws', hσ', hp', hp2, _, hlen', r1, fin⟩ := own_at k hen c E hg g
        rw [hσ] at hσ'
        cases hσ'
        rw [hp] at hp'
        cases hp'
        dsimp only at q
        by_cases hz : xs.length < sizeLn
        · rw [if_pos hz] at q
          have r2 := Rep.appE r1 r
          obtain ⟨g3, E3⟩ := fin (ws ++ [v]) (xs ++ [a]) S' H' (.refl g.sub) (by rw [List.map_append]; exact r2)
          exact ⟨p, ws, v, rfl, rfl, hp2, by rw [hlen]; exact hz, q σ S' _ P g3 E3 hl⟩
        · rw [if_neg hz] at q
          exact q.elim
theorem ms_clear (k : Tak l i .ow en get put) (hen : ∀ xs, en xs = .lst (xs.map ea)) (hv : PE X o (tVar i)) (hbase : attributeBase o "clear" X.env (eval o X.env) = eval o X.env := by rfl) (hline : (apos.endLine == cpos.line) = true := by rfl)
    (hsw : swapsWith (.Call (.Attribute o "clear" apos) [] [] cpos) none pos.line X.env = pure false := by rfl) : MS X l n W mr er (.Expr (.Call (.Attribute o "clear" apos) [] [] cpos) pos) (clearF get put) :=
  PS.imp (ps_expr (pe_bm0 PySem.F.plainAttrs_list PySem.F.slot_list_clear PySem.F.type_list_clear mt_clear hv hbase hline) hsw) fun D σ H ⟨S, t, P, c, E, hl, q⟩ => by
    unfold clearF at q
    cases hg : get t with
    | none =>
      rw [hg] at q
      exact q.elim
    | some xs =>
      rw [hg] at q
      obtain ⟨p, ws, hσ, hp, _, _, hlen, _, fin⟩ := own_at k hen c E hg (.refl c.sub)
      obtain ⟨g3, E3⟩ := fin [] [] S H (.refl c.sub) .nil
      exact ⟨_, hσ, .inl ⟨rfl, ws, SqL.of hp⟩, p, ws, rfl, rfl, hp, q σ S _ P g3 E3 hl⟩
/-! what is owned is shared from now on -/
structure Fz (l : Lay T) (p : T → T) : Prop where
  fz : ∀ {K : PySem.W.Frag} {S : Sh} {H : Hp} {σ : L2.St} {t : T} {P : FP}, Same S H → Env K S H σ l t P → ∃ Pf P', (∀ x, P x ↔ Pf x ∨ P' x) ∧ Disj Pf P' ∧ ∀ S' : Sh, SL S S' → S'.mu = S.mu → Same S' H → (∀ x o, Pf x → H x = some o → S' x = some o) → Env K S' H σ l (p t) P'
theorem Fz.z {β : Type} {i : Nat} {m : Md} {eb : β → D} [F : Frz eb] : Fz (.cons i m eb (.cons i .sh eb l)) (fun t => (none, (t.1, t.2.2))) := ⟨fun {K S H σ t P} sub e => by
  obtain ⟨x, y, t⟩ := t
  have e1 : ∀ {P0 : FP}, Env K S H σ (.cons i .sh eb l) (y, t) P0 → ∃ P', Env K S H σ l t P' ∧ P0 = P' := fun {P0} e => by
    cases y with
    | none => exact ⟨P0, e, rfl⟩
    | some b =>
      obtain ⟨v, P1, P2, h, r, o, e2, dj, rfl⟩ := e
      have o : P1 = Emp := o
      subst o
      exact ⟨P2, e2, fp_eq fun x => ⟨fun z => z.elim False.elim id, .inr⟩⟩
  cases x with
  | none =>
    obtain ⟨P', e2, rfl⟩ := e1 (P0 := P) e
    exact ⟨Emp, P, fun x => ⟨.inr, fun z => z.elim False.elim id⟩, fun _ z => z.elim, fun S' s1 sm s2 _ => e2.frame s1 sm fun _ _ _ _ h => h⟩
  | some b =>
    obtain ⟨v, P1, P2, h, r, o, e2, dj, rfl⟩ := e
    obtain ⟨P', e2, rfl⟩ := e1 e2
    refine ⟨P1, P2, fun x => Iff.rfl, dj, fun S' s1 sm s2 k => ⟨v, Emp, P2, h, Rep.freeze sub r (F.nd b) s1 s2 k, rfl, e2.frame s1 sm fun _ _ _ _ h => h, fun _ z => z.elim, fp_eq fun x => ⟨.inr, fun z => z.elim False.elim id⟩⟩⟩⟩
theorem Fz.s {β : Type} {j : Nat} {m' : Md} {en' : β → D} {p : T → T} (q : Fz l p) : Fz (.cons j m' en' l) (fun t => (t.1, p t.2)) := ⟨fun {K S H σ t P} sub e => by
  obtain ⟨x, t⟩ := t
  cases x with
  | none => exact q.fz (t := t) sub e
  | some b =>
    obtain ⟨v, P1, P2, h, r, o, e2, dj, rfl⟩ := e
    obtain ⟨Pf, P', hp, d2, k⟩ := q.fz sub e2
    refine ⟨Pf, fun x => P1 x ∨ P' x, fun x => ⟨fun z => ?_, fun z => ?_⟩, fun x z y => y.elim (fun y => dj x y ((hp x).mpr (.inl z))) (d2 x z), fun S' s1 sm s2 kk => ⟨v, P1, P', h, r.frame s1 fun _ _ _ _ h => h, o, k S' s1 sm s2 kk, fun x z y => dj x z ((hp x).mpr (.inr y)), rfl⟩⟩
    · rcases z with z | z
      · exact .inr (.inl z)
      · exact ((hp x).mp z).elim .inl fun z => .inr (.inr z)
    · rcases z with z | z | z
      · exact .inr ((hp x).mpr (.inl z))
      · exact .inl z
      · exact .inr ((hp x).mpr (.inr z))⟩
theorem mss_frz {p : T → T} {sts : List Stmt} {F : T → Out T R} (h : MSs X l n W mr er sts F) (k : Fz l p) : MSs X l n W mr er sts (preS p F) := PSs.imp h fun D σ H ⟨S, t, P, c, E, hl, q⟩ => by
  obtain ⟨Pf, P', hp, dj, k⟩ := k.fz c.sub E
  have E' := k (frz S H Pf) (frz_same c.sub) rfl (frz_sub0 c.sub) fun x o hx z => by rw [frz_in hx]; exact z
  have c' : Cfg l.tabs (frz S H Pf) H P' := ⟨frz_sub c.sub (fun x o hx z => E.ntH x o ((hp x).mpr (.inl hx)) z), fun x hx => by rw [frz_out (fun z => dj x z hx)]; exact c.sep x ((hp x).mpr (.inr hx)), E'.inH⟩
  refine ⟨frz S H Pf, p t, P', c', E', hl, OQ.trans q ⟨frz_same c.sub, fun _ => rfl, c', fun _ _ _ _ e => e, fun x z => .inl ((hp x).mpr (.inr z)), fun x o z => ?_, fun _ e => .inr e⟩⟩
  by_cases hx : Pf x
  · exact .inr (.inl ((hp x).mpr (.inl hx)))
  · rw [frz_out hx] at z
    exact .inl ⟨o, z⟩
/-! chains a < b < c -/
theorem chain_q {α β γ : Type} {R R' : R2} {ea : α → D} {eb : β → D} {ec : γ → D} {h : α → β → Res Bool} {h2 : β → γ → Res Bool} {f : T → Res α} {g : T → Res β} {k : T → Res γ} (o : Op2 X.K R ea eb eB h) (o2 : Op2 X.K R' eb ec eB h2) (σ : L2.St) (H : Hp) (Q : VK) :
    tME X.K l W eB (chainE h h2 f g k) σ H Q → tChain R R' (tMB X.K l W ea f) (tMB X.K l W eb g) (tMB X.K l W ec k) σ H Q := fun ⟨S, t, P, c, E, q⟩ =>
  ⟨S, t, P, c, E, q.bind.imp (fun a q v S1 H1 P1 g1 r1 f1 k1 => ⟨S1, t, P, c.grow g1, E.grow g1, q.bind.imp (fun b q w S2 H2 P2 g2 r2 f2 k2 => o.run g2.sub (r1.grow g2) r2 f1 f2 ((q.bind.nox (o.nox a b)).imp (fun x q z S3 H3 g3 r3 => ⟨x, (Rp.bl r3).1, by
    have gg := (g1.trans g2).trans g3
    cases x with
    | false =>
      rw [if_neg (by decide)]
      exact (show ∀ v S' H', Grow l.tabs S H S' H' → Rp X.K S' H' v (.bl false) Emp → Q v H' from q) _ S3 H3 gg (Rep.bl _ .nil)
    | true =>
      rw [if_pos rfl]
      have q : RQ ((k t).bind fun c => h2 b c) _ _ := q
      exact ⟨S3, t, P, c.grow gg, E.grow gg, q.bind.imp (fun c q z S4 H4 P4 g4 r4 f4 _ => o2.run g4.sub ((r2.grow g3).grow g4) r4 f2 f4 ((q.nox (o2.nox b c)).imp (fun z q v S' H' g5 r5 => q v S' H' (gg.trans (g4.trans g5)) r5) fun _ z => z)) fun _ z => exq_grow z gg⟩⟩) fun _ z => z)) fun _ z => exq_grow z g1⟩) fun _ z => z⟩
theorem me_chain {α β γ : Type} {op op' : CmpOp} {R R' : R2} {ea : α → D} {eb : β → D} {ec : γ → D} {h : α → β → Res Bool} {h2 : β → γ → Res Bool} {f : T → Res α} {g : T → Res β} {k : T → Res γ} {a b c : Expr} (ho : OpR X (compareOp op) R) (ho' : OpR X (compareOp op') R') (o : Op2 X.K R ea eb eB h) (o2 : Op2 X.K R' eb ec eB h2)
    (ha : PE X a (tMB X.K l W ea f)) (hb : PE X b (tMB X.K l W eb g)) (hc : PE X c (tMB X.K l W ec k)) (hm : lastMarks [op, op'] [b, c] = false := by with_unfolding_all rfl) : PE X (.Compare a [op, op'] [b, c] pos) (tME X.K l W eB (chainE h h2 f g k)) := PE.imp (pe_chain ho ho' ha hb hc hm) (chain_q o o2)
theorem mt_chain {α β γ : Type} {op op' : CmpOp} {R R' : R2} {ea : α → D} {eb : β → D} {ec : γ → D} {h : α → β → Res Bool} {h2 : β → γ → Res Bool} {f : T → Res α} {g : T → Res β} {k : T → Res γ} {a b c : Expr} (ho : OpR X (compareOp op) R) (ho' : OpR X (compareOp op') R') (o : Op2 X.K R ea eb eB h) (o2 : Op2 X.K R' eb ec eB h2)
    (ha : PE X a (tMB X.K l W ea f)) (hb : PE X b (tMB X.K l W eb g)) (hc : PE X c (tMB X.K l W ec k)) (hm : lastMarks [op, op'] [b, c] = false := by with_unfolding_all rfl) : PT X (.Compare a [op, op'] [b, c] pos) (tMT X.K l W (chainE h h2 f g k)) := PT.imp (pt_chain ho ho' ha hb hc hm) fun σ H Q z => chain_q o o2 σ H _ (mt_of σ H Q z)
end
end M

namespace M
open Enc (enc)
open PySem PySem.Spec PyProof.Rows L2 W
/-! ### sorted -/
theorem each_of {R : Value → V × PyData → Prop} : ∀ {us : List Value} {zs : List (V × PyData)}, Paired (fun (z : V × PyData) u => R u z) zs us → PySem.W.EachIs R us zs
  | _, _, .nil => .nil
  | _, _, .cons h t => .cons h (each_of t)
theorem vals_zip {β : Type} : ∀ {ws : List V} {us : List Value} (bs : List β), Vals ws us → ws.length = bs.length → PySem.W.EachIs (fun u (z : V × β) => RelV z.1 u) us (ws.zip bs)
  | _, _, [], .nil, _ => .nil
  | _, _, b :: bs, .cons h t, l => .cons h (vals_zip bs t (by simpa using l))
theorem vals_out {β : Type} : ∀ {us : List Value} {zs : List (V × β)}, PySem.W.EachIs (fun u (z : V × β) => RelV z.1 u) us zs → Vals (zs.map (·.1)) us
  | _, _, .nil => .nil
  | _, _, .cons h t => .cons h (vals_out t)
theorem pd_depth {n : Nat} {ds : List D} (h : PD n ds) : PyData.depthAll (toPys ds) ≤ n := by
  induction h with
  | nil => exact Nat.zero_le _
  | non _ ih | bl _ ih | int _ ih | str _ ih => exact Nat.max_le.mpr ⟨Nat.zero_le _, ih⟩
  | lst _ _ i1 i2 | scr _ _ i1 i2 | tup _ _ i1 i2 => exact Nat.max_le.mpr ⟨Nat.succ_le_succ i1, i2⟩
def rSortD {β : Type} (K : PySem.W.Frag) (enc : β → PyData) : List V → Hp → VK → Prop := fun vs H Q => ∃ (a : Addr) (ws : List V) (bs : List β), vs = [.ref a] ∧ SqL K H a ws ∧ ws.length = bs.length ∧ (∀ (i : Nat) v b, ws[i]? = some v → bs[i]? = some b → Dp K H v (enc b)) ∧
  ∀ p, H p = none → Q (.ref p) (upd H p (.lst (((ws.zip bs).mergeSort (PySem.W.dataLe false fun z => enc z.2)).map (·.1))))
theorem zip_reads {β : Type} {X : Cx} {pins : List (Addr × Obj)} {σ : L2.St} {H : Hp} {s : Shared} {enc : β → PyData} (I : Inv X pins σ H s) : ∀ {ws : List V} {us : List Value} {bs : List β}, Vals ws us → ws.length = bs.length → (∀ (i : Nat) v b, ws[i]? = some v → bs[i]? = some b → Dp X.K H v (enc b)) → PySem.W.EachIs (fun u (z : V × β) => ∃ as, Reads s.heap u (enc z.2) as) us (ws.zip bs)
  | _, _, [], .nil, _, _ => .nil
  | _, _, b :: bs, .cons (a := w) h t, l, k => .cons (Dp.reads I _ w _ (k 0 w b rfl rfl) h) (zip_reads I t (by simpa using l) fun i v b e1 e2 => k (i + 1) v b (by simpa using e1) (by simpa using e2))
theorem cr_sortD {β : Type} {X : Cx} {enc : β → PyData} (hal : ∀ b b', PySem.W.alike (enc b) (enc b') = true) (hk : (∀ b, ∃ x r, enc b = .tuple (x :: r)) ∨ ∀ b, enc b ≠ .none ∧ ∀ xs, enc b ≠ .tuple xs) (hd : ∀ b, (enc b).depth ≤ 32) (hu : X.A.units + 64 < cLine) : CallR X (.builtin "sorted") (rSortD X.K enc) := by
  intro pins s σ H vs us Q I r h
  obtain ⟨a, ws, bs, rfl, hs, hlen, hdp, q⟩ := h
  obtain ⟨its, rv, hl, hz⟩ := I.list hs
  rw [Vals.ref1 r]
  have hzl : (ws.zip bs).length = ws.length := by rw [List.length_zip, hlen, Nat.min_self]
  refine PySem.W.sorted_data (R := fun u (z : V × β) => RelV z.1 u) (enc := fun z : V × β => enc z.2) hl.isList (vals_zip bs rv hlen) (zip_reads I rv hlen hdp) (PySem.W.AllAlike.of fun _ _ => hal _ _)
    (hk.elim (fun h => PySem.W.Sortable.tuples fun z => h z.2) fun h => PySem.W.Sortable.others fun z => h z.2) (by rw [hzl]; exact hz) (fun z _ => by have := hd z.2; omega) fun out h1 h2 => ?_
  obtain ⟨ep, he'⟩ := PyProof.Rows.sortedAll_at s.heap its out.toArray
  refine ⟨.ref _, upd H (s.heap.objs.size + 1) (.lst (((ws.zip bs).mergeSort (PySem.W.dataLe false fun z => enc z.2)).map (·.1))), I.laid (t' := s.toks) (fun _ _ => PyProof.Rows.sortedAll_old) (Nat.le_succ _) ⟨?_, out, ep, vals_out h2, he'⟩, rfl, q _ (I.hok.fresh (Nat.le_succ _))⟩
  rw [List.length_map, List.length_mergeSort, hzl]
  exact hz
/-- an order that Python keeps -/
class OrE (α : Type) [Enc α] [LeO α] (n : outParam Nat) : Prop where
  pd : ∀ a : α, PD n [Enc.enc a]
  al : ∀ a b : α, PySem.W.alike (toPy (Enc.enc a)) (toPy (Enc.enc b)) = true
  so : (∀ b : α, ∃ x r, toPy (Enc.enc b) = .tuple (x :: r)) ∨ ∀ b : α, toPy (Enc.enc b) ≠ .none ∧ ∀ xs, toPy (Enc.enc b) ≠ .tuple xs
  le : ∀ a b : α, (!PySem.W.dataLt (toPy (Enc.enc b)) (toPy (Enc.enc a))) = LeO.le a b
instance : OrE Int 0 := ⟨fun _ => .int .nil, fun _ _ => rfl, .inr fun _ => ⟨fun h => (nomatch h), fun _ h => (nomatch h)⟩, fun a b => by
  have := congrFun (congrFun (PySem.W.dataLe_int (fun x : Int => x)) a) b
  exact this⟩
instance : OrE Str 0 := ⟨fun _ => .str .nil, fun _ _ => rfl, .inr fun _ => ⟨fun h => (nomatch h), fun _ h => (nomatch h)⟩, fun a b => by
  have := congrFun (congrFun (PySem.W.dataLe_str (fun x : Str => x)) a) b
  exact this⟩
instance {α β : Type} {n m k j : Nat} [DecidableEq α] [DecidableEq β] [Enc α] [Enc β] [LeO α] [LeO β] [o : OrE α k] [o' : OrE β j] [q : EqE α n] [q' : EqE β m] : OrE (T2 α β) (max n m + 1) := ⟨fun x => (inferInstance : EqE (T2 α β) (max n m + 1)).pd x,
  fun p p' => by
    show PySem.W.alikeAll [toPy (enc p.a), toPy (enc p.b)] [toPy (enc p'.a), toPy (enc p'.b)] = true
    simp only [PySem.W.alikeAll, o.al, o'.al, Bool.and_self], .inl fun p => ⟨_, _, rfl⟩, fun p p' => by
    show (!PySem.W.dataLt (.tuple [toPy (enc p'.a), toPy (enc p'.b)]) (.tuple [toPy (enc p.a), toPy (enc p.b)])) = if p.a = p'.a then LeO.le p.b p'.b else LeO.le p.a p'.a
    rw [PySem.W.dataLt_pair (o.al _ _) (o'.al _ _), q.eq, q'.eq]
    by_cases h : p.a = p'.a
    · rw [if_pos h, if_pos (decide_eq_true h.symm)]
      by_cases h2 : p.b = p'.b
      · rw [if_pos (decide_eq_true h2.symm), ← o'.le, ← h2]
        unfold PySem.W.dataLt
        rw [PyProof.Rows.lex_irrefl]
      · rw [if_neg (by simpa using fun e => h2 e.symm)]
        exact o'.le _ _
    · rw [if_neg h, if_neg (by simpa using fun e => h e.symm)]
      exact o.le _ _⟩
theorem o_sort {α : Type} [Enc α] [LeO α] {n : Nat} [o : OrE α n] {K : PySem.W.Frag} (hn : n ≤ 32 := by decide) : OpNO K (rSortD K (fun x : α => toPy (Enc.enc x))) .ow (a1 (Enc.enc : List α → D)) (Enc.enc : List α → D) (fun x => .ok (sortL x.1)) := ⟨fun {τ S H vs a P Q} s r q => by
  obtain ⟨v, P1, rfl, r, f⟩ := r.one
  obtain ⟨p, ws, rfl, h, r⟩ := Rp.lstF s r f
  have hl : ws.length = a.1.length := by rw [r.len, List.length_map]
  have at_ : ∀ (i : Nat) (v : V) (b : α), ws[i]? = some v → a.1[i]? = some b → Rp K S H v (Enc.enc b) Emp := fun i v b e1 e2 => by
    obtain ⟨w, e3, rw'⟩ := Rep.getE r (i := i) (d := Enc.enc b) (by rw [List.getElem?_map, e2]; rfl)
    rw [e1] at e3
    cases e3
    exact rw'
  refine ⟨p, ws, a.1, rfl, SqL.of h, hl, fun i v b e1 e2 => (Rp.dp s (at_ i v b e1 e2) (o.pd b) hn).1, fun d hd => ?_⟩
  have zm : ∀ z ∈ ws.zip a.1, Rp K S H z.1 (Enc.enc z.2) Emp := fun z hz => by
    obtain ⟨i, hi⟩ := List.getElem?_of_mem hz
    rw [List.getElem?_zip_eq_some] at hi
    exact at_ i z.1 z.2 hi.1 hi.2
  have key : ∀ zs : List (V × α), (∀ z ∈ zs, Rp K S H z.1 (Enc.enc z.2) Emp) → Rep K S H (zs.map (·.1)) ((zs.map (·.2)).map Enc.enc) Emp := fun zs => by
    induction zs with
    | nil => exact fun _ => .nil
    | cons z zs ih => exact fun k => (k z List.mem_cons_self).joinE (ih fun y hy => k y (List.mem_cons_of_mem _ hy))
  have e : (((ws.zip a.1).mergeSort (PySem.W.dataLe false fun z => toPy (Enc.enc z.2))).map (·.2)) = sortL a.1 := by
    unfold sortL
    rw [List.map_mergeSort (s := LeO.le) (fun x _ y _ => o.le x.2 y.2)]
    rw [List.map_snd_zip (by omega)]
  have r2 := key ((ws.zip a.1).mergeSort (PySem.W.dataLe false fun z => toPy (Enc.enc z.2))) fun z hz => zm z (List.mem_mergeSort.mp hz)
  rw [e] at r2
  obtain ⟨g3, r3, o3, n3⟩ := own_lst s hd r2
  exact q _ S _ _ g3 r3 o3 n3, fun _ => nx_ok⟩
theorem call_sort {α : Type} [Enc α] [LeO α] {n : Nat} [o : OrE α n] {X : Cx} (hu : X.A.units + 64 < cLine) (hn : n ≤ 32 := by decide) : CallR X (.builtin "sorted") (rSortD X.K (fun x : α => toPy (Enc.enc x))) := cr_sortD o.al o.so (fun b => by
  obtain ⟨h1, h2⟩ : PyData.depthAll (toPys [Enc.enc b]) ≤ n ∧ True := ⟨pd_depth (o.pd b), trivial⟩
  have := Nat.le_max_left (PyData.depth (toPy (Enc.enc b))) 0
  simp only [toPys, PyData.depthAll] at h1
  omega) hu
/-! isinstance -/
/-- of which built-in type the data are -/
class TyE {α : Type} (en : α → D) (t : outParam String) : Prop where
  ty : ∀ {K : PySem.W.Frag} {S : Sh} {H : Hp} {v : V} {P : FP} (a : α), Same S H → Rp K S H v (en a) P → TyX K H v (.type t)
abbrev TE' (α : Type) [Enc α] (t : outParam String) : Prop := TyE (Enc.enc : α → D) t
instance : TE' Int "int" := ⟨fun a s r => by obtain ⟨rfl, _⟩ := Rp.int r; exact .base (.int _)⟩
instance : TE' Bool "bool" := ⟨fun a s r => by obtain ⟨rfl, _⟩ := Rp.bl r; exact .base (.bl _)⟩
instance : TE' Str "str" := ⟨fun a s r => by obtain ⟨rfl, _⟩ := Rp.str r; exact .base (.str _)⟩
instance : TE' Unit "NoneType" := ⟨fun a s r => by obtain ⟨rfl, _⟩ := Rp.non r; exact .base .non⟩
instance {α : Type} [Enc α] : TE' (List α) "list" := ⟨fun a s r => by obtain ⟨p, ws, P1, rfl, h, _⟩ := Rp.lst s r; exact .base (.lst h)⟩
/-- a built-in class's name -/
theorem Rp.tyv {K : PySem.W.Frag} {S : Sh} {H : Hp} {v : V} {n : String} {P : FP} (r : Rp K S H v (.ty n) P) : v = .ty n := by cases r; rfl
theorem me_ty {X : Cx} {T : Type} {l : Lay T} {W : WX} {x : Str} {n : String} {pos : Pos} (hg : Gl X x) (hm : X.mg x = none) (hv : bootBuiltins x = some (.type n) := by decide +kernel) (hn : x ≠ "__name__" := by decide) (hd : (x == ("__debug__" : Str)) = false := by decide) : PE X (.Name x pos) (tME X.K l W (Enc.enc : Cls0 n → D) fun _ => .ok ⟨⟩) :=
  me_c (v := .ty n) (pe_bltn hg hm hv rfl hn hd) fun _ _ => Rep.ty n .nil
theorem o_isi {α : Type} {en : α → D} {t n : String} {b : Bool} [ty : TyE en t] {K : PySem.W.Frag} (h : PySem.W.kitOne K (.type t) (.type n) = some b) : OpN K (rIsi K) (a2 en (Enc.enc : Cls0 n → D)) eB (fun _ => .ok b) := ⟨fun {τ S H vs a P Q} s r q => by
  obtain ⟨v, w, P1, P2, rfl, r1, f, r2, f2⟩ := r.two
  obtain rfl := Rp.tyv r2
  exact ⟨_, _, _, _, b, rfl, .ty n, ty.ty a.1 s r1, h, q _ S H (.refl s) (Rep.bl _ .nil)⟩, fun _ => nx_ok⟩
/-- of None or a thing -/
theorem o_isiO {α : Type} [Enc α] {t n : String} {b c : Bool} [ty : TE' α t] {K : PySem.W.Frag} (h : PySem.W.kitOne K (.type t) (.type n) = some b) (h2 : PySem.W.kitOne K (.type "NoneType") (.type n) = some c) : OpN K (rIsi K) (a2 (Enc.enc : Option α → D) (Enc.enc : Cls0 n → D)) eB (fun x => .ok (if x.1.isSome then b else c)) := ⟨fun {τ S H vs a P Q} s r q => by
  obtain ⟨v, w, P1, P2, rfl, r1, f, r2, f2⟩ := r.two
  obtain rfl := Rp.tyv r2
  obtain ⟨x, y⟩ := a
  cases x with
  | none =>
    obtain ⟨rfl, _⟩ := Rp.non r1
    exact ⟨_, _, _, _, c, rfl, .ty n, .base .non, h2, q _ S H (.refl s) (Rep.bl _ .nil)⟩
  | some x => exact ⟨_, _, _, _, b, rfl, .ty n, ty.ty (en := (Enc.enc : α → D)) x s r1, h, q _ S H (.refl s) (Rep.bl _ .nil)⟩, fun _ => nx_ok⟩
/-! sums, any, all -/
theorem ws_int {K : PySem.W.Frag} {S : Sh} {H : Hp} : ∀ {ws : List V} {ns : List Int}, Rep K S H ws (ns.map eI) Emp → ws = ns.map V.int
  | _, [], r => (r.nilP).1
  | _, n :: ns, r => by
    obtain ⟨v, us, rfl, r1, r2⟩ := r.splitE
    obtain ⟨rfl, _⟩ := Rp.int r1
    rw [ws_int r2]
    rfl
theorem ws_bl {K : PySem.W.Frag} {S : Sh} {H : Hp} : ∀ {ws : List V} {ns : List Bool}, Rep K S H ws (ns.map eB) Emp → ws = ns.map V.bl
  | _, [], r => (r.nilP).1
  | _, n :: ns, r => by
    obtain ⟨v, us, rfl, r1, r2⟩ := r.splitE
    obtain ⟨rfl, _⟩ := Rp.bl r1
    rw [ws_bl r2]
    rfl
section
variable {K : PySem.W.Frag}
theorem o_sum : OpN K (rSum K) (a1 (Enc.enc : List Int → D)) eI (fun x => sumL x.1) := ⟨fun {τ S H vs a P Q} s r q => by
  obtain ⟨v, P1, rfl, r, f⟩ := r.one
  obtain ⟨p, ws, rfl, h, r⟩ := Rp.lstF s r f
  rw [ws_int r] at h
  exact ⟨p, a.1, rfl, SqL.of h, q _ S H (.refl s) (Rep.int _ .nil)⟩, fun _ => nx_ok⟩
theorem o_any : OpN K (rAny K) (a1 (Enc.enc : List Bool → D)) eB (fun x => anyL x.1) := ⟨fun {τ S H vs a P Q} s r q => by
  obtain ⟨v, P1, rfl, r, f⟩ := r.one
  obtain ⟨p, ws, rfl, h, r⟩ := Rp.lstF s r f
  rw [ws_bl r] at h
  exact ⟨p, a.1, rfl, SqL.of h, q _ S H (.refl s) (Rep.bl _ .nil)⟩, fun _ => nx_ok⟩
theorem o_all : OpN K (rAll K) (a1 (Enc.enc : List Bool → D)) eB (fun x => allL x.1) := ⟨fun {τ S H vs a P Q} s r q => by
  obtain ⟨v, P1, rfl, r, f⟩ := r.one
  obtain ⟨p, ws, rfl, h, r⟩ := Rp.lstF s r f
  rw [ws_bl r] at h
  exact ⟨p, a.1, rfl, SqL.of h, q _ S H (.refl s) (Rep.bl _ .nil)⟩, fun _ => nx_ok⟩
end
/-! slices of texts, drawn places -/
theorem cut_mem {α : Type} {xs : List α} {lo hi : Option Int} {a : α} (h : a ∈ cut xs lo hi) : a ∈ xs := List.mem_of_mem_drop (List.mem_of_mem_take h)
theorem sOk_cut {z : Str} {lo hi : Option Int} (o : sOk z = true) : sOk ⟨(cut z.cps.toList lo hi).toArray⟩ = true := by
  have o : Array.all z.cps (· < 0x110000) = true := o
  show Array.all (cut z.cps.toList lo hi).toArray _ = true
  rw [Array.all_eq_true_iff_forall_mem] at o ⊢
  intro c hc
  exact o c (Array.mem_toList_iff.mp (cut_mem (List.mem_toArray.mp hc)))
theorem cutS_eq {z : Str} {lo hi : Option Int} : L2.cutS z lo hi = ⟨(cut z.cps.toList lo hi).toArray⟩ := by
  unfold L2.cutS cut
  rw [sIx_eq]
  rfl
section
variable {X : Cx} {T : Type} {l : Lay T} {W : WX} {e : Expr} {pos p2 : Pos}
theorem me_slT {f : T → Res Str} {k1 k2 : T → Res (Option Int)} {lo hi : Option Expr} (he : PE X e (tMB X.K l W eT f)) (h1 : PO X lo (tMP X.K l W k1)) (h2 : PO X hi (tMP X.K l W k2)) : PE X (.Subscript e (.Slice lo hi none p2) pos) (tME X.K l W eT (op3 cutT f k1 k2)) :=
  PE.imp (pe_slice sl_str he h1 h2) fun σ H Q ⟨S, t, P, c, E, q⟩ => slice_c (m := .sh) (ec := eT) (h := cutT) (lo := lo) (hi := hi) (fun {τ S H x a lo hi P1 Q} s rx f1 q => by
    obtain ⟨rfl, _, o⟩ := Rp.str rx
    obtain ⟨hc, q⟩ := q.chk
    exact ⟨a, rfl, of_decide_eq_true hc, by rw [cutS_eq]; exact q _ S H Emp (.refl s) (Rep.str _ (sOk_cut o) .nil) rfl fun _ z => z.elim⟩) (fun _ _ _ => nx_chk) σ H Q ⟨S, t, P, c, E, q.imp (fun a q v S' H' P1 g r o n => by
    obtain rfl : P1 = Emp := o
    exact q v S' H' g r) fun _ z => z⟩
end
theorem o_ix12 {α β : Type} [Enc α] [Enc β] {K : PySem.W.Frag} : Op2 K (rIxT K) (Enc.enc : T3 α β β → D) eI (Enc.enc : β → D) ix12 := ⟨fun {τ S H x y a b P1 P2 Q} s rx ry f1 f2 q => by
  have h := ry
  obtain ⟨rfl, _⟩ := Rp.int h
  unfold ix12 at q
  by_cases e1 : b = 1
  · subst e1
    rw [if_pos rfl] at q
    exact (o_ixU (ea := (Enc.enc : T3 α β β → D)) (eb := (Enc.enc : β → D)) 1 (fun x => x.b) (fun _ => rfl) (fun _ => rfl)).run s rx ry f1 f2 (by simpa [Res.chk] using q)
  · rw [if_neg e1] at q
    by_cases e2 : b = 2
    · subst e2
      rw [if_pos rfl] at q
      exact (o_ixU (ea := (Enc.enc : T3 α β β → D)) (eb := (Enc.enc : β → D)) 2 (fun x => x.c) (fun _ => rfl) (fun _ => rfl)).run s rx ry f1 f2 (by simpa [Res.chk] using q)
    · rw [if_neg e2] at q
      exact q.elim, fun a b e h => by
  unfold ix12 at h
  split at h
  · cases h
  · split at h <;> cases h⟩
/-! x = [..] -/
section
variable {X : Cx} {T R α β : Type} {l : Lay T} {n : Nat} {W : WX} {mr : Md} {er : R → D} {iter tg elt : Expr} {ea : α → D} {eb : β → D} {f : T → Res (List α)} {pos spos : Pos} {p : T → α → T} {sh : Bool} {ifs : List Expr} {scope : Scope} {own : List (Str × Nat)} {w : T → T} {c : T → Res Bool} {h : T → Res β} {en : List β → D} {pt : T → List β → T} {y : Str} {py : Pos} {i : Nat}
theorem ms_setLc (i : Nat) (hy : X.N[i]? = some y) (hc : X.calm = true) (hN : X.N.Nodup) (hn : X.N.length = n) (hen : ∀ xs, en xs = .lst (xs.map eb)) (hi : PI X tg iter (tMI X.K l W sh ea f)) (ok : BlkOk X.N X.env.scope scope own) (wp : Wip l (own.map (·.2)) w)
    (hg : ∀ (s : Shared) (H : Hp) (C : Addr) (cl : List (Str × Addr)) (fp : List Addr), PG (X.blk s H scope (compEnvC scope cl C X.env) fp) tg (tMG X.K l n (own.map (·.2)) ea p)) (ht : ∀ (s : Shared) (H : Hp) (C : Addr) (cl : List (Str × Addr)) (fp : List Addr), PTs (X.blk s H scope (compEnvC scope cl C X.env) fp) ifs (tMT X.K l W0 c))
    (he : ∀ (s : Shared) (H : Hp) (C : Addr) (cl : List (Str × Addr)) (fp : List Addr), PE (X.blk s H scope (compEnvC scope cl C X.env) fp) elt (tME X.K l W0 eb h)) (k : Put l i .ow en pt) (hyl : X.env.scope.names.lookup y = some .local := by rfl) (hin : decide (i < n) = true := by rfl)
    (hsw : swapsWith (.ListComp elt [⟨tg, iter, ifs, 0⟩] scope pos) (some (.Name y py)) spos.line X.env = pure true := by exact sw_true rfl rfl rfl (by decide +kernel)) (hs : ∀ x, foldedSetIterable iter X.env x = pure x := by intro _; rfl) :
    MS X l n W mr er (.Assign [.Name y py] (.ListComp elt [⟨tg, iter, ifs, 0⟩] scope pos) spos) (asgS (lcE f w p c h) pt) := PS.imp (ps_setLc hc hN hy hyl hsw hi ok hg ht he hs) fun D σ H ⟨S, t, P, cf, E, hl, q⟩ => by
  refine lc_q (W := W) (eb := eb) (en := en) hen wp σ H _ hl ⟨S, t, P, cf, E, andS_q cf E hl q fun a q v S' H' P1 g r o nw => ?_⟩
  obtain ⟨P', E', k⟩ := k.put (E.grow g) (by rw [hl]; exact of_decide_eq_true hin) r o fun x z y => by
    obtain ⟨o, h⟩ := cf.inh x y
    rw [(nw x z).1] at h
    cases h
  refine q _ S' H' P' ?_ E' (by rw [List.length_set]; exact hl)
  exact ⟨g.s, fun _ => g.mu, ⟨g.sub, fun x z => (k x z).elim ((cf.grow g).sep x) fun z => (nw x z).2, E'.inH⟩, fun x o _ n z => g.h.at_ x o n z, fun x z => (k x z).elim .inl fun z => .inr (nw x z).1, fun x o z => (g.new x o z).elim .inl fun z => .inr (.inr z), fun _ e => .inr (g.h.free e)⟩
theorem ms_setLcE (i : Nat) [F : Frz en] (hy : X.N[i]? = some y) (hc : X.calm = true) (hN : X.N.Nodup) (hn : X.N.length = n) (hen : ∀ xs, en xs = .lst (xs.map eb)) (hi : PI X tg iter (tMI X.K l W sh ea f)) (ok : BlkOk X.N X.env.scope scope own) (wp : Wip l (own.map (·.2)) w)
    (hg : ∀ (s : Shared) (H : Hp) (C : Addr) (cl : List (Str × Addr)) (fp : List Addr), PG (X.blk s H scope (compEnvC scope cl C X.env) fp) tg (tMG X.K l n (own.map (·.2)) ea p)) (ht : ∀ (s : Shared) (H : Hp) (C : Addr) (cl : List (Str × Addr)) (fp : List Addr), PTs (X.blk s H scope (compEnvC scope cl C X.env) fp) ifs (tMT X.K l W0 c))
    (he : ∀ (s : Shared) (H : Hp) (C : Addr) (cl : List (Str × Addr)) (fp : List Addr), PE (X.blk s H scope (compEnvC scope cl C X.env) fp) elt (tME X.K l W0 eb h)) (k : Put l i .sh en pt) (hyl : X.env.scope.names.lookup y = some .local := by rfl) (hin : decide (i < n) = true := by rfl)
    (hsw : swapsWith (.ListComp elt [⟨tg, iter, ifs, 0⟩] scope pos) (some (.Name y py)) spos.line X.env = pure true := by exact sw_true rfl rfl rfl (by decide +kernel)) (hs : ∀ x, foldedSetIterable iter X.env x = pure x := by intro _; rfl) :
    MS X l n W mr er (.Assign [.Name y py] (.ListComp elt [⟨tg, iter, ifs, 0⟩] scope pos) spos) (asgS (lcE f w p c h) pt) := PS.imp (ps_setLc hc hN hy hyl hsw hi ok hg ht he hs) fun D σ H ⟨S, t, P, cf, E, hl, q⟩ => by
  refine lc_q (W := W) (eb := eb) (en := en) hen wp σ H _ hl ⟨S, t, P, cf, E, andS_q cf E hl q fun a q v S' H' P1 g r o nw => ?_⟩
  have g2 : Grow l.tabs S H (frz S' H' P1) H' := ⟨g.s.trans (frz_same g.sub), g.mu, g.h, frz_sub g.sub r.ntH, fun x o z => by
    by_cases hx : P1 x
    · exact .inr (nw x hx).1
    · rw [frz_out hx] at z
      exact g.new x o z⟩
  have r2 : Rp X.K (frz S' H' P1) H' v (en a) Emp := Rep.freeze g.sub r (F.nd a) (frz_same g.sub) (frz_sub0 g.sub) fun x o hx z => by rw [frz_in hx]; exact z
  obtain ⟨P', E', k⟩ := k.put (E.grow g2) (by rw [hl]; exact of_decide_eq_true hin) r2 rfl fun _ z => z.elim
  exact q _ _ H' P' ((g2.grw cf).less fun x z => (k x z).elim id False.elim) E' (by rw [List.length_set]; exact hl)
end
/-! the law's own end -/
/-- all but the tables -/
def Snt (H : Hp) : Hp := fun b => match H b with
  | some (.tbl _) => none
  | o => o
theorem snt_eq {H : Hp} {b : Addr} {o : HO} (n : NT o) (e : H b = some o) : Snt H b = some o := by
  unfold Snt
  rw [e]
  cases o with
  | tbl ps => exact absurd rfl (n ps)
  | _ => rfl
theorem snt_le (H : Hp) : Same (Snt H) H := fun b o e => by
  unfold Snt at e
  split at e
  · cases e
  · exact e
theorem snt_nt (H : Hp) (b : Addr) (ps : Array Value) : Snt H b ≠ some (.tbl ps) := fun e => by
  unfold Snt at e
  split at e
  · cases e
  · rename_i o h
    exact h ps e
/-- the law's promise, with tables -/
structure sp_lawT (τ : TL) (K : PySem.W.Frag) (vs : List V) (H : Hp) (Q : VK) (E : XK) : Prop where
  ex : ∃ (a : Addr) (ns : List Int), vs = [.ref a] ∧ SqL K H a (ns.map V.int) ∧ ns.length ≤ 63 ∧ (∀ z ∈ ns, Builtin.Int.intBits z ≤ 1048576) ∧ LamX.Tabs τ.tabs H ∧ ∀ H', Q (.bl true) H'
theorem snt_seq {K : PySem.W.Frag} {H : Hp} {a : Addr} {xs : List V} (h : SqL K H a xs) : SqL K (Snt H) a xs := by
  rcases h with (h | ⟨o, h⟩) | h
  · exact .inl (.inl (snt_eq (fun _ z => nomatch z) h))
  · exact .inl (.inr ⟨o, snt_eq (fun _ z => nomatch z) h⟩)
  · exact .inr h
theorem law_end {P : Program} {w : World} {K : PySem.W.Frag} {mg : Str → Option Value} {base : Heap} {k : Nat} {f : Addr} {fd : FuncData} {x : Str} {τ : TL} {lf : Scr × Unit → Res Bool} (F : FnOk P w K mg base (L2.CX P w) k f fd [x] (spP K τ (consD (Enc.enc : Scr → D) nilD) .sh eB lf))
    (h : ∀ ns : List Int, ns.length ≤ 63 → (∀ z ∈ ns, Builtin.Int.intBits z ≤ 1048576) → lf (⟨ns⟩, ()) = .ok true) : FnOk P w K mg base L2.CX0 k f fd [x] (sp_lawT τ K) := by
  have go : ∀ vs H Q E, sp_lawT τ K vs H Q E → spP K τ (consD (Enc.enc : Scr → D) nilD) .sh eB lf vs H Q (fun _ _ _ => False) := fun vs H Q E ⟨a, ns, e, hS, hl, hb, hT, q⟩ => by
    subst e
    have r : Rep K ⟨Snt H, fun _ => none⟩ H (ns.map V.int) (ns.map eI) Emp := by
      clear hS hl hb
      induction ns with
      | nil => exact .nil
      | cons n ns ih => exact Rep.int n ih
    refine ⟨⟨Snt H, fun _ => none⟩, (⟨ns⟩, ()), ⟨snt_le H, snt_nt H, hT⟩, Rep.scr (snt_seq hS) r .nil, ?_⟩
    rw [h ns hl hb]
    intro v S' H' P1 g r o n
    obtain ⟨rfl, _⟩ := Rp.bl r
    exact q H'
  refine ⟨fun vs H Q E z => F.len vs H Q _ (go vs H Q E z), fun A outer s H args us vs Q E hr e0 hb r z => codeAny_mono (F.run A outer s H args us vs Q (fun _ _ _ => False) hr e0 hb r (go vs H Q E z)) fun r s' hq => ?_⟩
  cases r with
  | ok u => cases u <;> exact hq
  | error e =>
    obtain ⟨_, _, _, _, _, _, _, _, _, _, _, _, z⟩ := hq
    exact z.elim
theorem sp_law_to {K : PySem.W.Frag} {vs : List V} {H : Hp} {Q : VK} {E : XK} (h : W.sp_law K vs H Q E) : sp_lawT ⟨[], false⟩ K vs H Q E := by
  obtain ⟨_, a, ns, e, hS, hl, hb, _, q⟩ := h
  exact ⟨a, ns, e, hS, hl, hb, fun p hp => absurd hp List.not_mem_nil, q⟩
theorem law_end0 {P : Program} {w : World} {K : PySem.W.Frag} {mg : Str → Option Value} {base : Heap} {k : Nat} {f : Addr} {fd : FuncData} {x : Str} (F : FnOk P w K mg base L2.CX0 k f fd [x] (sp_lawT ⟨[], false⟩ K)) : FnOk P w K mg base L2.CX0 k f fd [x] (W.sp_law K) :=
  ⟨fun vs H Q E z => F.len vs H Q E (sp_law_to z), fun A outer s H args us vs Q E hr e0 hb r z => F.run A outer s H args us vs Q E hr e0 hb r (sp_law_to z)⟩
theorem un65 {k : Nat} {A : Around} (r : Room k A) : A.units + 65 < cLine := by
  have := r.un
  omega
end M

namespace M
open Enc (enc)
open PySem PySem.Spec PyProof.Rows L2 W RT
/-! ### list(reversed(a list)) -/
section
variable {prog : Program} {w : World} {A : Around} {E : Value → Shared → Prop} {s : Shared}
theorem extend_rev {R : Result → Shared → Prop} {it l : Addr} {items : Array Value} (hh : A.handled = none) (hit : s.heap.IsRevIter it l ((items.size : Int) - 1)) (hl : s.heap.IsList l items) (hne : l ≠ it) (hn : items.size ≤ sizeLine) (S : Addr) (hSi : S ≠ it) (hSl : S ≠ l) (res : Value) (c₀ : Nat)
    (hS : s.heap.get? S = some { cls := .type "list", data := .seq #[] c₀ })
    (hR : ∀ h' tk acc' c', (∀ b o, b ≠ S → b ≠ it → s.heap.get? b = some o → h'.get? b = some o) → h'.get? S = some { cls := .type "list", dict := none, data := .seq acc' c', slots := #[] } →
      ItemsOf (fun i v => items[items.size - 1 - i]? = some v) acc' items.size → R (.ok (.ret res)) { s with heap := h', toks := tk }) :
    wpAny (model prog w) A.in1 (Builtin.List.listExtendWith (.ref S) (.ref it) res)
      (fun fin s' => match fin with | .done f => R (.ok f) s' | .again c' => c'.quiet = true ∧ codeAny (model prog w) A c' R s') (fun e s' => R (.error e) s') s := by
  have W := (Walks.listRev (prog := prog) (w := w) (A := A.in1) hh it l hne items).toS
  have hSf : S ∉ [it, l] := by simp only [List.mem_cons, List.not_mem_nil, or_false, not_or]; exact ⟨hSi, hSl⟩
  have e0 : ((items.size : Nat) : Int) - 1 - ((0 : Nat) : Int) = (items.size : Int) - 1 := by omega
  have key : ∀ (h : Heap) (c₁ tk : Nat), h.IsRevIter it l ((items.size : Int) - 1) → h.IsList l items → (∀ b o, b ≠ S → b ≠ it → s.heap.get? b = some o → h.get? b = some o) →
      h.get? S = some { cls := .type "list", data := .seq #[] c₁ } → codeAny (model prog w) A (.builtin "list.extend.loop" ⟨[.ref S, .ref it, res], []⟩) R { s with heap := h, toks := tk } := by
    intro h c₁ tk hit hl hk hS₁
    refine codeAny_extend_loopS W hn S hSf res items.size 0 _ #[] c₁ rfl (Nat.zero_le _) ⟨Nat.zero_le _, by rw [e0]; exact hit, hl⟩ hS₁ (ItemsOf.nil _) fun s' acc' c' hm hS' hacc => ?_
    rw [Moved.eq_with hm]
    refine hR s'.heap s'.toks acc' c' (fun b o hb hi e => hm.heap b o (fun hmem => ?_) (hk b o hb hi e)) hS' hacc
    rcases List.mem_cons.mp hmem with e' | hmem
    · exact hb e'
    · exact hi (List.mem_singleton.mp hmem)
  have hT : s.TypeIs (.ref it) "list_reverseiterator" := Heap.IsRevIter.typeIs hit
  have h1 : Builtin.List.listSameRef (.ref S) (.ref it) = false := by simp [Builtin.List.listSameRef, hSi]
  unfold Builtin.List.listExtendWith
  refine wpAny_bind (wpAny_typeOf hT ?_)
  rw [if_neg (by rw [h1]; decide)]
  refine wpAny_bind (wpAny_pyIter_revIter hit ?_)
  refine wpAny_bind (wpAny_holding ?_)
  unfold Builtin.List.listLengthHint
  refine wpAny_bind (wpAny_specialOf hT nolen_lri ?_)
  show wpAny _ A.in1 (specialOf (Value.ref it) (Str.ofString "__length_hint__") >>= _) _ _ _
  refine wpAny_bind (wpAny_specialOf hT hint_lri ?_)
  generalize hid : ("list_reverseiterator.__length_hint__" : String) = id0
  wp_delta
  rw [show splitId id0 = some ("list_reverseiterator", "__length_hint__") from by subst hid; decide +kernel]
  subst hid
  refine wpAny_bind (wpAny_isInstance (b := true) hT (by rw [isSubtype_type]; kernel_rfl) ?_)
  refine wpAny_pure ?_
  refine wpAny_ite_split (fun _ => ?_) (fun _ => wpAny_pure ⟨plainId_quiet F.plain_extend_loop _, key _ c₀ _ hit hl (fun b o _ _ e => e) hS⟩)
  refine wpAny_bind (wpAny_rule ?_)
  refine wpAny_bind ?_
  show wpAny _ _ (updateSeq S (·.push .none) >>= fun _ => updateSeq S (·.pop)) _ _ _
  refine wpAny_bind (wpAny_updateSeq hS rfl ?_)
  have hS₂ := Heap.get?_update_self (Obj.mapSeq (·.push Value.none)) hS rfl
  refine wpAny_updateSeq (hz := by seq_fits) hS₂ rfl ?_
  have hS₃ := Heap.get?_update_self (Obj.mapSeq (·.pop)) hS₂ rfl
  have oth : ∀ b o, b ≠ S → s.heap.get? b = some o → ((s.heap.update S (Obj.mapSeq (·.push Value.none))).update S (Obj.mapSeq (·.pop))).get? b = some o := fun b o hb e => (Heap.get?_update_other _ _ (Ne.symm hb)).trans ((Heap.get?_update_other _ _ (Ne.symm hb)).trans e)
  exact wpAny_pure ⟨plainId_quiet F.plain_extend_loop _, key _ _ _ (hit.at fun o e => oth _ o (Ne.symm hSi) e) (hl.at fun o e => oth _ o (Ne.symm hSl) e) (fun b o hb _ e => oth b o hb e) hS₃⟩
theorem list_init_rev {R : Result → Shared → Prop} {it l : Addr} {items : Array Value} (hh : A.handled = none) (hit : s.heap.IsRevIter it l ((items.size : Int) - 1)) (hl : s.heap.IsList l items) (hne : l ≠ it) (hn : items.size ≤ sizeLine) (S : Addr) (hSi : S ≠ it) (hSl : S ≠ l)
    (hS : s.heap.get? S = some { cls := .type "list", data := .seq #[] })
    (hR : ∀ h' tk acc' c', (∀ b o, b ≠ S → b ≠ it → s.heap.get? b = some o → h'.get? b = some o) → h'.get? S = some { cls := .type "list", dict := none, data := .seq acc' c', slots := #[] } →
      ItemsOf (fun i v => items[items.size - 1 - i]? = some v) acc' items.size → R (.ok (.ret .none)) { s with heap := h', toks := tk }) :
    wpAny (model prog w) A.in1 (Builtin.«list.__init__» ⟨[.ref S, .ref it], []⟩)
      (fun fin s' => match fin with | .done f => R (.ok f) s' | .again c' => c'.quiet = true ∧ codeAny (model prog w) A c' R s') (fun e s' => R (.error e) s') s := by
  show wpAny _ _ (do let old ← Builtin.List.listItems (.ref S); Builtin.List.listUpdate (.ref S) (fun _ => #[]); letGo old.toList.reverse; Builtin.List.listExtendWith (.ref S) (.ref it) .none) _ _ s
  refine wpAny_bind ?_
  unfold Builtin.List.listItems
  refine wpAny_bind (wpAny_seqItems hS rfl (wpAny_pure ?_))
  show wpAny _ _ (updateSeq S (fun _ => #[]) >>= fun _ => letGo (#[] : Array Value).toList.reverse >>= fun _ => Builtin.List.listExtendWith (.ref S) (.ref it) .none) _ _ s
  refine wpAny_bind (wpAny_updateSeq hS rfl ?_)
  have hS₂ := Heap.get?_update_self (Obj.mapSeq (fun _ => (#[] : Array Value))) hS rfl
  have oth : ∀ b o, b ≠ S → s.heap.get? b = some o → (s.heap.update S (Obj.mapSeq (fun _ => (#[] : Array Value)))).get? b = some o :=
    fun b o hb e => (Heap.get?_update_other _ _ (Ne.symm hb)).trans e
  refine wpAny_bind (wpAny_letGo ?_)
  refine extend_rev hh (hit.at fun o e => oth _ o (Ne.symm hSi) e) (hl.at fun o e => oth _ o (Ne.symm hSl) e) hne hn S hSi hSl .none _ hS₂ fun h' tk acc' c' hk hS' hacc => ?_
  exact hR h' tk acc' c' (fun b o hb hi e => hk b o hb hi (oth b o hb e)) hS' hacc
theorem call_list_rev {it l : Addr} {items : Array Value} {Q : Value → Shared → Prop} (hh : A.handled = none) (hit : s.heap.IsRevIter it l ((items.size : Int) - 1)) (hl : s.heap.IsList l items) (hne : l ≠ it) (hn : items.size ≤ sizeLine)
    (hQ : ∀ h' tk acc' c', (∀ b o, b ≠ it → s.heap.get? b = some o → h'.get? b = some o) →
      h'.get? s.heap.objs.size = some { cls := .type "list", dict := none, data := .seq acc' c', slots := #[] } → ItemsOf (fun i v => items[items.size - 1 - i]? = some v) acc' items.size → Q (.ref s.heap.objs.size) { s with heap := h', toks := tk }) :
    wpAny (model prog w) A (call (.type "list") [.ref it]) Q E s := by
  refine callType_codes (Q₁ := fun obj s₁ => obj = .ref s.heap.objs.size ∧ s₁ = { s with heap := s.heap.push { cls := .type "list", data := .seq #[] } }) F.called_list (F.typeCall_list_1 _) F.entry_list_init
    (code_list_new _ ⟨rfl, rfl⟩) fun obj s₁ h₁ => ?_
  obtain ⟨rfl, rfl⟩ := h₁
  obtain ⟨oi, hoi, _⟩ := id hit
  obtain ⟨ol, hol, _⟩ := id hl
  have hS : (s.heap.push { cls := .type "list", data := .seq #[] }).get? s.heap.objs.size = some { cls := .type "list", data := .seq #[] } := Heap.get?_push_size _ rfl
  refine ⟨⟨_, hS, rfl⟩, F.args_list_init_2 _ _, list_init_rev (A := A.in1) hh (hit.at fun o e => Heap.get?_push_of_some _ e) (hl.push _) hne hn _ (Nat.ne_of_gt (Heap.lt_size hoi)) (Nat.ne_of_gt (Heap.lt_size hol)) hS fun h' tk acc' c' hk hS' hacc => ?_⟩
  exact ⟨rfl, hQ h' tk acc' c' (fun b o hi e => hk b o (Nat.ne_of_lt (Heap.lt_size e)) hi (Heap.get?_push_of_some _ e)) hS' hacc⟩
end
section
variable {X : Cx}
/-- list(reversed(x)), x a list: a new list -/
def tLstRev (K : PySem.W.Frag) (te : TE) : TE := fun σ H Q => te σ H fun v H1 => ∃ (a : Addr) (xs : List V), v = .ref a ∧ SqL K H1 a xs ∧ ∀ q, H1 q = none → Q (.ref q) (upd H1 q (.lst xs.reverse))
theorem pe_lstRev {e : Expr} {te : TE} {p p2 pos pos2 : Pos} (hc : X.calm = true) (hg : Gl X "list") (hm : X.mg "list" = none) (hg2 : Gl X "reversed") (hm2 : X.mg "reversed" = none) (he : PE X e te)
    (hs : starEach [e] X.env = (false, eval e X.env) :: starEach [] X.env := by rfl)
    (hs2 : starEach [.Call (.Name "reversed" p2) [e] [] pos2] X.env = (false, eval (.Call (.Name "reversed" p2) [e] [] pos2) X.env) :: starEach [] X.env := by rfl) :
    PE X (.Call (.Name "list" p) [.Call (.Name "reversed" p2) [e] [] pos2] [] pos) (tLstRev X.K te) := by
  refine ⟨fun pins s σ H Q I h => ?_⟩
  refine Call_ (ld_blt I hg hm boot_list (PyProof.Rows.callWith_type1 (args_cons (Call_ (ld_blt I hg2 hm2 PyProof.Rows.boot_reversed (PyProof.Rows.callWith_type1 (args_cons (thn (he.run pins s σ H _ I h) fun u s1 ⟨v, H1, I1, r1, q1⟩ => args_nil ?_) hs) hs rfl))) hs2) hs2 rfl))
  obtain ⟨a, xs, ev, hq, q⟩ := q1
  subst ev
  obtain rfl : u = Value.ref a := r1
  obtain ⟨its, rv, p', hz⟩ := I1.list hq
  refine call_reversed_list p'.isList (args_nil ?_)
  have k0 : ∀ b o, s1.heap.get? b = some o → (s1.heap.push (revObj a ((its.toArray.size : Int) - 1))).get? b = some o := fun b o e => Heap.get?_push_of_some _ e
  have I2 : Inv X pins σ H1 { s1 with heap := s1.heap.push (revObj a ((its.toArray.size : Int) - 1)) } := I1.kept (t' := s1.toks) k0
  have hl := p'.isList
  obtain ⟨ol, hol, _⟩ := id hl
  have hne : a ≠ s1.heap.objs.size := Nat.ne_of_lt (Heap.lt_size hol)
  have hn : its.toArray.size ≤ sizeLine := by rw [List.size_toArray, ← rv.length]; exact hz
  refine call_list_rev (s := { s1 with heap := s1.heap.push (revObj a ((its.toArray.size : Int) - 1)) }) (I1.ok.hd hc) ⟨_, Heap.get?_push_size _ rfl, rfl, rfl⟩ (hl.push _) hne hn fun h' tk acc c' hk hS hi => ?_
  have hk1 : ∀ b o, s1.heap.get? b = some o → h'.get? b = some o := fun b o e => hk b o (Nat.ne_of_lt (Heap.lt_size e)) (k0 b o e)
  have hsz : s1.heap.objs.size ≤ (s1.heap.push (revObj a ((its.toArray.size : Int) - 1))).objs.size := by
    show _ ≤ (Array.push _ _).size
    rw [Array.size_push]
    exact Nat.le_succ _
  refine ⟨.ref _, upd H1 _ (.lst xs.reverse), I1.laid (t' := tk) (a := (s1.heap.push (revObj a ((its.toArray.size : Int) - 1))).objs.size) hk1 hsz (show ObjOk X.prog X.w _ _ _ (.lst xs.reverse) from ⟨by rw [List.length_reverse]; exact hz, acc.toList, c', vals_rev rv hi, ?_⟩), rfl, q _ (I1.hok.fresh hsz)⟩
  rw [Array.toArray_toList]
  exact hS
end
section
variable {X : Cx} {T α : Type} {l : Lay T} {W : WX} {e : Expr} {f : T → Res (List α)}
theorem Rep.rev {K : PySem.W.Frag} {S : Sh} {H : Hp} : ∀ {ds : List D} {vs : List V}, Rep K S H vs ds Emp → Rep K S H vs.reverse ds.reverse Emp
  | [], vs, r => by obtain ⟨rfl, _⟩ := r.nilP; exact .nil
  | d :: ds, vs, r => by
    obtain ⟨v, us, rfl, h1, h2⟩ := r.splitE
    rw [List.reverse_cons, List.reverse_cons]
    exact Rep.appE (Rep.rev h2) h1
theorem mo_lstRev [Enc α] {p p2 pos pos2 : Pos} (hc : X.calm = true) (hg : Gl X "list") (hm : X.mg "list" = none) (hg2 : Gl X "reversed") (hm2 : X.mg "reversed" = none) (he : PE X e (tMB X.K l W (Enc.enc : List α → D) f))
    (hs : starEach [e] X.env = (false, eval e X.env) :: starEach [] X.env := by rfl)
    (hs2 : starEach [.Call (.Name "reversed" p2) [e] [] pos2] X.env = (false, eval (.Call (.Name "reversed" p2) [e] [] pos2) X.env) :: starEach [] X.env := by rfl) :
    PE X (.Call (.Name "list" p) [.Call (.Name "reversed" p2) [e] [] pos2] [] pos) (tMO X.K l W .ow (Enc.enc : List α → D) (op1 (fun xs => .ok xs.reverse) f)) := PE.imp (pe_lstRev hc hg hm hg2 hm2 he hs hs2) fun σ H Q ⟨S, t, P, c, E, q⟩ =>
  ⟨S, t, P, c, E, q.bind.imp (fun a q v S1 H1 P1 g1 r1 f1 _ => by
    obtain ⟨p, ws, rfl, h, r⟩ := Rp.lstF g1.sub r1 f1
    refine ⟨p, ws, rfl, SqL.of h, fun d hd => ?_⟩
    obtain ⟨g2, r2, o2, n2⟩ := own_lst g1.sub hd (Rep.rev r)
    refine (show ∀ v S2 H2 P1, Grow l.tabs S H S2 H2 → Rp X.K S2 H2 v (Enc.enc a.reverse) P1 → Md.ow.ok v P1 → (∀ x, P1 x → H x = none ∧ S2 x = none) → Q v H2 from q) _ S1 _ _ (g1.trans g2) ?_ o2 fun x e => ⟨g1.h.free (n2 x e).1, (n2 x e).2⟩
    show Rp X.K S1 _ _ (.lst (a.reverse.map Enc.enc)) _
    rw [List.map_reverse]
    exact r2) fun _ z => z⟩
end
end M

namespace M
open Enc (enc)
open PySem PySem.Spec PyProof.Rows L2 W
/-! ### lambdas as keys -/
section
variable {X : Cx} {pins : List (Addr × Obj)} {σ : L2.St} {H : Hp} {s : Shared}
/-- an object of ours that was not tracked is tracked -/
theorem inv_track {a : Addr} {o : HO} (I : Inv X pins σ H s) (fp : FpOk X pins H a) (new : ObjOk X.prog X.w (upd H a o) s.heap a o) : Inv X pins σ (upd H a o) s := by
  have hn : H a = none := fp.1
  have nit : ∀ b u, H b = some u → b ≠ a := fun b u e => ne_of_none e hn
  have st : Inv X pins σ (upd H a o) { s with heap := s.heap, gens := s.gens, drawn := s.drawn, toks := s.toks } := by
    refine I.step (ch := [a]) (fun b hb => ?_) (fun b o _ _ _ e _ => e) (fun b o _ _ _ e _ => ⟨o.slots, e⟩) (fun b u hc e n => ?_) (fun b u _ e => ⟨u, e⟩) (fun b xs e => ?_) (fun b u v e => ?_) (fun b ps e => ⟨#[], ?_⟩) (fun m hm => hm) (fun b u e => ?_) I.bare
    · have e : b = a := by simpa using hb
      subst e
      exact ⟨fp.2.2.2.1, fp.2.1, fp.2.2.2.2.1, fp.2.2.2.2.2⟩
    · rw [upd_ne (fun z => hc (by simp [z]))]; exact n
    · rw [upd_ne (nit _ _ e)]; exact e
    · rw [upd_ne (nit _ _ e)]; exact e
    · rw [upd_ne (nit _ _ e), e]; simp
    · by_cases hb : b = a
      · subst hb
        rw [upd_same] at e
        cases e
        exact new
      · rw [upd_ne hb] at e
        exact (I.hok b u e).stay (fun c v _ q => q) (fun c q => by rw [upd_ne (nit _ _ q)]; exact q) fun c xs q => by rw [upd_ne (nit _ _ q)]; exact q
  exact st
end
/-- the object at f is a lambda that captures nothing -/
def FunO (f c' : Addr) (q : Str) (params : Arguments) (body : Expr) (scope : Scope) : HO := .ext fun h => ∃ (pm ctv : Value), h.get? f = some (PySem.W.kla_obj "<lambda>" q params body scope [] pm c' ctv)
/-- a lambda is made -/
def tLamb (τ : TL) (q : Str) (params : Arguments) (body : Expr) (scope : Scope) : TE := fun σ H Q => LamX.Tabs τ.tabs H ∧ ∀ (f c' : Addr) (H1 : Hp), SameN H H1 → LamX.Tabs τ.tabs H1 → H1 f = some (FunO f c' q params body scope) → H1 c' = some (LamX.CodeO c' q) → Q (.ref f) H1
theorem same_codes {H H1 : Hp} {P c : Addr} {ps more : Array Value} {q : Str} (hP : H P = some (.tbl ps)) (nC : H c = none) : SameN H (upd (upd H P (.tbl (ps ++ more))) c (LamX.CodeO c q)) := by
  refine ⟨fun x o n e => ?_, fun {x} e => ?_⟩
  · have n1 : x ≠ c := ne_of_none e nC
    have n2 : x ≠ P := fun z => by
      rw [z, hP] at e
      exact n ps (Option.some.inj e).symm
    rw [upd_ne n1, upd_ne n2]
    exact e
  · by_cases n1 : x = c
    · rw [n1, upd_same] at e
      cases e
    · rw [upd_ne n1] at e
      by_cases n2 : x = P
      · rw [n2, upd_same] at e
        cases e
      · rw [upd_ne n2] at e
        exact e
theorem pe_lamb {X : Cx} {τ : TL} {c P : Addr} {params : Arguments} {body : Expr} {scope : Scope} {pos : Pos} (TB : LamX.TabB X.base X.mg c P) (hcode : X.env.code = .ref c) (hm : (P, X.env.qual ++ "<lambda>") ∈ τ.tabs) (hu : ∀ p ∈ τ.tabs, p.1 = P → p.2 = X.env.qual ++ "<lambda>")
    (hdef : defaultsOf params X.env = ([], [])) (hfree : ∀ y ∈ scope.names, y.2 ≠ .free) (hcl : cloFrom X.env.cells scope.names [] = []) : PE X (.Lambda params body scope pos) (tLamb τ (X.env.qual ++ "<lambda>") params body scope) := by
  refine ⟨fun pins s σ H Q I ⟨hT, h⟩ => ?_⟩
  obtain ⟨ps, hP, ht, ha⟩ := hT _ hm
  refine PySem.W.kla_eval hdef ?_
  have bP : s.heap.BuiltinsAt X.mg P := TB.bm.keeps I.bk
  have hP' : s.heap.get? P = some { cls := .none, data := .fields ps } := I.hok P _ hP
  have clo : closureFor scope X.env = pure [] := by
    rw [← hcl]
    exact closure_ok fun y hy e => absurd e (hfree y hy)
  have fin : ∀ (c' : Addr) (ctv : Value) (h' : Heap) (tk : Nat) (H1 : Hp), Inv X pins σ H1 { s with heap := h', toks := tk } → SameN H H1 → LamX.Tabs τ.tabs H1 → H1 c' = some (LamX.CodeO c' (X.env.qual ++ "<lambda>")) →
      EP X pins σ Q (.ref h'.objs.size) { s with heap := h'.push (PySem.W.kla_obj "<lambda>" (X.env.qual ++ "<lambda>") params body scope [] ((X.mg "__name__").getD .none) c' ctv), toks := tk } := by
    intro c' ctv h' tk H1 I1 sn tb hc'
    have nf : H1 h'.objs.size = none := I1.hok.fresh (Nat.le_refl _)
    have I2 : Inv X pins σ (upd H1 h'.objs.size (FunO h'.objs.size c' (X.env.qual ++ "<lambda>") params body scope)) { s with heap := h'.push (PySem.W.kla_obj "<lambda>" (X.env.qual ++ "<lambda>") params body scope [] ((X.mg "__name__").getD .none) c' ctv), toks := tk } :=
      I1.laid (t' := tk) (fun b o e => Heap.get?_push_of_some _ e) (Nat.le_refl _) (show ObjOk X.prog X.w _ _ _ (FunO _ _ _ _ _ _) from ⟨⟨_, _, Heap.get?_push_size _ rfl⟩, ⟨_, Heap.get?_push_size _ rfl⟩, fun h1 h2 ⟨pm, ctv, e⟩ st => ⟨pm, ctv, st _ e⟩⟩)
    exact ⟨.ref _, _, I2, rfl, h _ c' _ (sn.trans (.of (same_new nf))) (tb.ext (same_new nf)) upd_same (by rw [upd_ne (ne_of_none hc' nf)]; exact hc')⟩
  cases hc : codeAmong pos ps.toList with
  | none =>
    refine PySem.W.kla_makeFunction (mg := X.mg) (c := c) (P := P) (ps := ps) clo I.ok.glob (I.mod.glob.keeps I.bk) hcode (TB.code.keeps I.bk) hP' ht hc TB.gP bP fun c' ctv h' tk hx hge hlt hrec htb => ?_
    obtain ⟨c2, oc, vs, t, e2, hoc, hd, hv⟩ := hrec
    cases e2
    have nC : H c' = none := I.hok.fresh hge
    have I1 := LamX.inv_table (t' := tk) (more := #[rawInt pos.line, rawInt pos.col, .ref c']) (h' := h') (q := X.env.qual ++ "<lambda>") I hP (fun b o hb e => hx b o hb e) htb hge ⟨oc, vs, t, hoc, hd, hv⟩
    have hE : LamX.ExtN H (upd (upd H P (.tbl (ps ++ #[rawInt pos.line, rawInt pos.col, .ref c']))) c' (LamX.CodeO c' (X.env.qual ++ "<lambda>"))) := fun b o e n => (same_codes (H1 := H) hP nC).at_ b o n e
    have eL : (ps ++ #[rawInt pos.line, rawInt pos.col, .ref c']).toList = ps.toList ++ [rawInt pos.line, rawInt pos.col, .ref c'] := by simp
    refine fin c' ctv h' tk _ I1 (same_codes (H1 := H) hP nC) (fun p hp => ?_) upd_same
    by_cases hb : p.1 = P
    · rw [hu p hp hb, hb]
      refine ⟨_, by rw [upd_ne (ne_of_none hP nC), upd_same], by rw [eL]; exact PySem.TriplesOk_snoc _ _ _ _ ht, fun p' cv hcv => ?_⟩
      rw [eL] at hcv
      rcases LamX.among_app _ ht hcv with z | z
      · obtain ⟨c0, e1, e2⟩ := ha p' cv z
        exact ⟨c0, e1, hE _ _ e2 LamX.codeO_ne⟩
      · exact ⟨c', z, upd_same⟩
    · obtain ⟨ps', a1, a2, a3⟩ := hT p hp
      refine ⟨ps', by rw [upd_ne (ne_of_none a1 nC), upd_ne hb]; exact a1, a2, fun p' cv hcv => ?_⟩
      obtain ⟨c0, e1, e2⟩ := a3 p' cv hcv
      exact ⟨c0, e1, hE _ _ e2 LamX.codeO_ne⟩
  | some cv =>
    obtain ⟨c', e, hco⟩ := ha pos cv hc
    subst e
    refine PySem.W.kla_makeFunctionHit (mg := X.mg) (c := c) (P := P) (ps := ps) clo I.ok.glob (I.mod.glob.keeps I.bk) hcode (TB.code.keeps I.bk) hP' ht hc bP fun ctv h' tk hx hsz => ?_
    exact fin c' ctv h' tk H (I.kept hx) (.refl H) hT hco
/-- the lambda runs -/
theorem lam_run {CX : CXT} {P : Program} {w : World} {K : PySem.W.Frag} {mg : Str → Option Value} {base : Heap} {k : Nat} {f c' : Addr} {q x : Str} {params : Arguments} {body : Expr} {scope : Scope} {pm ctv : Value} {N : List Str} {A : Around} {outer : List PySem.Env} {s : Shared} {H : Hp} {u : Value} {v : V} {Q : VK} {E : XK} {tb : TE}
    (hr : Room (k + 1) A) (e0 : Env0 P w K mg base A outer s H) (hf : s.heap.get? f = some (PySem.W.kla_obj "<lambda>" q params body scope [] pm c' ctv)) (hc : ∃ (oc : Obj) (vs : Array Value) (t : Tok), s.heap.get? c' = some oc ∧ oc.data = .fields vs ∧ vs[1]? = some (.str q t)) (S : FnScope N [x] scope)
    (hbind : bindArgs (PySem.W.kla_fn "<lambda>" q params body scope [] pm (.ref c') ctv) ⟨[u], []⟩ = pure [(x, u)]) (r : RelV v u)
    (hbody : Room k (A.deeper (envOfC q scope s.heap.objs.size f (.ref c'))) → PE (cxOf CX P w K mg base N q scope f (.ref c') A outer s H E) body tb) (ht : tb (L2.start N [v]) H Q) :
    codeAny (model P w) A (.call (.ref f) ⟨[u], []⟩) (CR CX outer P w H s Q E) s := by
  have lim : s.heap.NoLimit := e0.mod.nolimit.keeps fun b o e => (e0.bs b o e).1
  have hkind : ∀ y ∈ [x].zip [u], scope.names.lookup y.1 = some .local ∨ (scope.names.lookup y.1 = some .cell ∧ ((cellsFrom (s.heap.objs.size + 1) scope.names []).lookup y.1).isSome = true) := fun ⟨n, v⟩ hy => by
    rcases S.par n (List.of_mem_zip hy).1 with q | q
    · exact .inl q
    · exact .inr ⟨q, PySem.W.cellsFrom_some _ _ _ (.inl q)⟩
  obtain ⟨oc, vs, t, hoc, hd, hv⟩ := hc
  refine PySem.W.kla_callFunE hr.depth hf rfl S.co S.gen rfl ⟨c', oc, vs, t, rfl, hoc, hd, hv⟩ ?_
  rw [hbind]
  refine wpAny_pure (wpAny_newFunctionEnv_cells S.kind hkind fun env he s1 xx => ?_)
  subst he
  refine ⟨lim.keeps xx.toInCall.keep, ?_⟩
  have I := inv_start (CX := CX) (E := E) (f := f) (cd := .ref c') (qual := q) S hr.hd e0 rfl (.cons r .nil) xx
  refine PySem.W.kla_codeExpr (wpAny_mono ((hbody (hr.deeper _)).run [] s1 _ H Q I ht) (fun v s' hq => ?_) fun e s' hq => hq)
  obtain ⟨w', H', J, rv, q⟩ := hq
  exact ⟨w', H', J.os, J.bare, J.base, J.hok, rv, q⟩
end M
namespace M
open Enc (enc)
open PySem PySem.Spec PyProof.Rows L2 W
theorem toPys_map : ∀ ds : List D, toPys ds = ds.map toPy
  | [] => rfl
  | d :: ds => by rw [List.map_cons, ← toPys_map ds]; rfl
section
variable {X : Cx} {pins : List (Addr × Obj)} {σ : L2.St} {S : Sh} {H : Hp} {s : Shared} {τ : TL}
theorem fp_nofr {b : Addr} {H : Hp} (I : Inv X pins σ H s) (fp : FpOk X pins H b) : b ∉ frs X.stack := fun z => by
  rcases List.mem_cons.mp (I.stkSub _ z) with e | e
  · exact fp.2.1 e
  · exact fp.2.2.1 e
theorem fp_up {b : Addr} {H H' : Hp} (fp : FpOk X pins H b) (n : H' b = none) : FpOk X pins H' b := ⟨n, fp.2⟩
theorem reads_all (I : Inv X pins σ H s) (sub : Same S H) {n : Nat} : ∀ {ds : List D} {vs : List V} {us : List Value}, Rep X.K S H vs ds Emp → Vals vs us → PD n ds → PySem.W.EachIs (fun u d => ∃ as, Reads s.heap u d as) us (ds.map toPy)
  | [], vs, us, r, v, p => by
    obtain ⟨rfl, _⟩ := r.nilP
    cases v
    exact .nil
  | d :: ds, vs, us, r, v, p => by
    obtain ⟨w, ws, rfl, r1, r2⟩ := r.splitE
    cases v with
    | cons hv ht =>
      have p1 : PD n [d] ∧ PD n ds := by
        cases p with
        | non p => exact ⟨.non .nil, p⟩
        | bl p => exact ⟨.bl .nil, p⟩
        | int p => exact ⟨.int .nil, p⟩
        | str p => exact ⟨.str .nil, p⟩
        | lst a p => exact ⟨.lst a .nil, p⟩
        | scr a p => exact ⟨.scr a .nil, p⟩
        | tup a p => exact ⟨.tup a .nil, p⟩
      obtain ⟨h1, _, _⟩ := Rep.dp sub r1 p1.1
      cases h1 with
      | cons h1 _ => exact .cons (Dp.reads I _ w _ h1 hv) (reads_all I sub r2 ht p1.2)
theorem key_rest {a kS f : Addr} {vs : List Value} {ks : List D} {nD e1 : Nat} {P : PySem.Fin → Shared → Prop} {A1 : Around} {E : Value → Shared → Prop} (I : Inv X pins σ H s) (sub : Sub τ S H) (fk : FpOk X pins H kS) (fa : FpOk X pins H a) (hka : kS ≠ a)
    (nk : s.heap.get? kS = some (seqObj "list" #[] 0)) (na : s.heap.get? a = some (seqObj "list" #[] e1)) (hlen : ks.length = vs.length) (hZ : vs.length ≤ sizeLine) (hal : PySem.W.AllAlike (ks.map toPy)) (hsk : PySem.W.Sortable (ks.map toPy))
    (hu : ∀ d, d ∈ ks.map toPy → A1.units + d.depth < cLine) (hpd : PD nD ks)
    (turn : ∀ (j : Nat) (v : Value) (d : D), vs[j]? = some v → ks[j]? = some d → ∀ (S' : Sh) (H' : Hp) (s' : Shared), Grow τ S H S' H' → Inv X pins σ H' s' →
      wpAny (model X.prog X.w) A1 (call (.ref f) [v]) (fun u s'' => ∃ w S'' H'', Inv X pins σ H'' s'' ∧ Un (frs X.stack) [] H' H'' s'.heap s''.heap ∧ Grow τ S' H' S'' H'' ∧ RelV w u ∧ Rp X.K S'' H'' w d Emp) (fun _ _ => False) s')
    (h : ∀ (S' : Sh) (H' : Hp) (s' : Shared) (out : List Value) (c : Nat), Grow τ S H S' H' → Inv X pins σ H' s' → FpOk X pins H' a → s'.heap.get? a = some (seqObj "list" out.toArray c) → PySem.W.KeyedOut false (ks.map toPy) vs out → P (.done (.ret .none)) s') :
    wpAny (model X.prog X.w) A1 (ksk_rest a (.ref f) false vs.toArray e1 (.ref kS)) P E s := by
  have nfk := fp_nofr I fk
  have nfa := fp_nofr I fa
  unfold ksk_rest
  refine wpAny_bind (wpAny_rule ?_)
  first
    | rw [List.forIn_toArray]
    | (rw [← Array.forIn_toList]; simp only [List.toList_toArray])
    | rw [← Array.forIn_toList]
  refine wpAny_bind (ksk_fold (fun i s' => ∃ S' H' kvs kA e, Grow τ S H S' H' ∧ Inv X pins σ H' s' ∧ Rep X.K S' H' kvs (ks.take i) Emp ∧ Vals kvs (Array.toList kA) ∧ s'.heap.get? kS = some (seqObj "list" kA e) ∧ s'.heap.get? a = some (seqObj "list" #[] e1) ∧ H' kS = none ∧ H' a = none) vs 0 s
    ⟨S, H, [], #[], 0, .refl sub, I, by rw [List.take_zero]; exact .nil, .nil, nk, na, fk.1, fa.1⟩ ?step ?done)
  case step =>
    rintro j x s' hx ⟨S', H', kvs, kA, e, g, I', r, rv, nk', na', Hk, Ha⟩
    simp only [Nat.zero_add] at r ⊢
    have hj : j < vs.length := (List.getElem?_eq_some_iff.mp hx).1
    obtain ⟨d, hd⟩ : ∃ d, ks[j]? = some d := ⟨_, List.getElem?_eq_getElem (by omega)⟩
    have hz : kA.size ≤ vs.length := by
      have h1 : kvs.length = kA.size := by have := Vals.length rv; simpa using this
      have h2 := r.len
      rw [List.length_take] at h2
      omega
    refine wpAny_bind (wpAny_attempt (wpAny_mono (turn j x d hx hd S' H' s' g I') (fun v s'' he => ?_) fun _ _ hF => hF.elim))
    obtain ⟨w, S2, H2, I2, un, g2, rw', rp⟩ := he
    try dsimp only
    have nk2 := un.keep _ _ nk' Hk nfk List.not_mem_nil
    have na2 := un.keep _ _ na' Ha nfa List.not_mem_nil
    have Hk2 := un.free _ _ nk' Hk List.not_mem_nil
    have Ha2 := un.free _ _ na' Ha List.not_mem_nil
    have s1 := Heap.SameBut.update s''.heap kS (Obj.mapSeq (·.push v))
    obtain ⟨c2, hc2⟩ : ∃ c2, (s''.heap.update kS (Obj.mapSeq (·.push v))).get? kS = some (seqObj "list" (kA.push v) c2) := ⟨_, get?_update_seq nk2 (·.push v)⟩
    refine wpAny_bind (listUpdate_at nk2 rfl ?_ (Nat.le_trans hz hZ) (Nat.le_trans (Nat.le_of_eq (Array.size_push ..)) (Nat.succ_le_succ (Nat.le_trans hz hZ))))
    have fk2 : FpOk X pins H2 kS := fp_up fk Hk2
    have I3 : Inv X pins σ H2 { s'' with heap := s''.heap.update kS (Obj.mapSeq (·.push v)) } := I2.turned (t' := s''.toks) (fun b o hb e => (s1.2 b hb).trans e) fk2.1 (fun z => fk2.2.1 z) fk2.2.2.2.1 fk2.2.2.2.2.1 fk2.2.2.2.2.2
    have ek : ks.take (j + 1) = ks.take j ++ [d] := by rw [List.take_add_one, hd]; simp
    have ea : (kA.push v).toList = kA.toList ++ [v] := by simp
    refine wpAny_pure ⟨rfl, S2, H2, kvs ++ [w], kA.push v, c2, g.trans g2, I3, ?_, ?_, hc2, (s1.2 a hka.symm).trans na2, Hk2, Ha2⟩
    · rw [ek]
      exact Rep.appE (r.grow g2) rp
    · rw [ea]
      exact rv.append (.cons rw' .nil)
  case done =>
    rintro s' ⟨S', H', kvs, kA, e, g, I', r, rv, nk', na', Hk, Ha⟩
    have e3 : ks.take (0 + vs.length) = ks := List.take_of_length_le (by omega)
    rw [e3] at r
    have hk' := reads_all I' g.sub r rv hpd
    have hsz : kA.size = vs.length := by
      have h1 := hk'.length
      rw [Array.length_toList, List.length_map] at h1
      omega
    try dsimp only
    refine wpAny_bind (listItems_at nk' rfl ?_)
    obtain ⟨G, g1, g2⟩ := restrict s'.heap fun b => decide (b ≠ kS ∧ b ≠ a)
    have fk2 : FpOk X pins H' kS := fp_up fk Hk
    have fa2 : FpOk X pins H' a := fp_up fa Ha
    refine PySem.W.keyH_end (κ := PySem.W.dataKind s'.heap (ks.map toPy)) (h₁ := G) (b := false) (fun b o hb e => ?_) (g2 kS (decide_eq_false (fun z => z.1 rfl))) nk' na' hka (PySem.W.SortsAt.data hk' hal hsk hu) hsz hZ fun h3 tk3 c k3 n3 => ?_
    · by_cases hbk : b = kS
      · rw [hbk, g2 kS (decide_eq_false (fun z => z.1 rfl))] at e
        cases e
      · rw [g1 b (decide_eq_true ⟨hbk, hb⟩)] at e
        exact e
    · have I3 : Inv X pins σ H' { s' with heap := h3, toks := tk3 } := Inv.turnedL (ch := [a, kS]) I' (fun b o hb e => k3 b o (fun z => hb (by simp [z])) (by rw [g1 b (decide_eq_true ⟨fun z => hb (by simp [z]), fun z => hb (by simp [z])⟩)]; exact e)) fun b hb => by
        rcases List.mem_cons.mp hb with z | z
        · rw [z]; exact fa2
        · rw [List.mem_singleton.mp z]; exact fk2
      exact h S' H' _ _ c g I3 fa2 n3 ⟨s'.heap, kA.toList, hal, rfl, hk'⟩
end
end M
namespace M
open Enc (enc)
open PySem PySem.Spec PyProof.Rows L2 W
theorem keysR_len {α κ : Type} {key : α → Res κ} : ∀ {xs : List α} {ks : List κ}, keysR key xs = .ok ks → ks.length = xs.length
  | [], ks, h => by
    cases h
    rfl
  | x :: xs, ks, h => by
    unfold keysR at h
    cases e : key x with
    | ex z => rw [e] at h; cases h
    | stuck => rw [e] at h; cases h
    | ok k =>
      rw [e] at h
      replace h : ((keysR key xs).bind fun ks => Res.ok (k :: ks)) = .ok ks := h
      cases e2 : keysR key xs with
      | ex z => rw [e2] at h; cases h
      | stuck => rw [e2] at h; cases h
      | ok ks2 =>
        rw [e2] at h
        cases h
        rw [List.length_cons, List.length_cons, keysR_len e2]
theorem keysR_at {α κ : Type} {key : α → Res κ} : ∀ {xs : List α} {ks : List κ} {j : Nat} {x : α} {k : κ}, keysR key xs = .ok ks → xs[j]? = some x → ks[j]? = some k → key x = .ok k
  | [], ks, j, x, k, h, e1, e2 => by simp at e1
  | y :: xs, ks, j, x, k, h, e1, e2 => by
    unfold keysR at h
    cases e : key y with
    | ex z => rw [e] at h; cases h
    | stuck => rw [e] at h; cases h
    | ok k0 =>
      rw [e] at h
      replace h : ((keysR key xs).bind fun ks => Res.ok (k0 :: ks)) = .ok ks := h
      cases e3 : keysR key xs with
      | ex z => rw [e3] at h; cases h
      | stuck => rw [e3] at h; cases h
      | ok ks2 =>
        rw [e3] at h
        cases h
        cases j with
        | zero =>
          simp at e1 e2
          rw [← e1, e, e2]
        | succ j =>
          simp at e1 e2
          exact keysR_at e3 e1 e2
theorem keysR_nox {α κ : Type} {key : α → Res κ} : ∀ xs : List α, NoX (keysR key xs)
  | [] => fun e h => nomatch h
  | x :: xs => fun e h => by
    unfold keysR at h
    cases e1 : key x with
    | ex z => rw [e1] at h; cases h
    | stuck => rw [e1] at h; cases h
    | ok k =>
      rw [e1] at h
      replace h : ((keysR key xs).bind fun ks => Res.ok (k :: ks)) = .ex e := h
      cases e2 : keysR key xs with
      | ex z => exact keysR_nox xs z e2
      | stuck => rw [e2] at h; cases h
      | ok ks2 => rw [e2] at h; cases h
theorem cx_false {P : Program} {w : World} {outer : List PySem.Env} {H : Hp} {s : Shared} {e : Value} {s' : Shared} (h : L2.CX P w outer H s (fun _ _ _ => False) e s') : False := by
  obtain ⟨_, _, _, _, _, _, _, _, _, _, _, _, z⟩ := h
  exact z
theorem funO_nt {f c' : Addr} {q : Str} {params : Arguments} {body : Expr} {scope : Scope} : NT (FunO f c' q params body scope) := fun ps z => by
  unfold FunO at z
  cases z
/-- what sorted(l, key=f) asks -/
def rSortK {α κ : Type} [Enc α] [LeO κ] (K : PySem.W.Frag) (τ : TL) (q : Str) (params : Arguments) (body : Expr) (scope : Scope) (key : α → Res κ) : List V → List V → Hp → VK → Prop := fun vs zs H Q => ∃ (f c' : Addr) (S : Sh) (v : V) (xs : List α) (P1 : FP), vs = [v] ∧ zs = [.ref f] ∧ H f = some (FunO f c' q params body scope) ∧ H c' = some (LamX.CodeO c' q) ∧
  Sub τ S H ∧ Rp K S H v (Enc.enc xs) P1 ∧ Fl v P1 ∧ RQ (sortK key xs) (fun ys => ∀ w S' H' P3, Grow τ S H S' H' → Rp K S' H' w (Enc.enc ys) P3 → Md.ow.ok w P3 → (∀ x, P3 x → H x = none ∧ S' x = none) → Q w H') (fun _ => False)
theorem cr_sortK {α κ T : Type} [Enc α] [Enc κ] [LeO κ] {n : Nat} [o : OrE κ n] {X : Cx} {k : Nat} {q x : Str} {params : Arguments} {body : Expr} {scope : Scope} {N : List Str} {l : Lay T} {ini : α × Unit → T} {F : T → Res κ} (hn : n ≤ 32) (hr : Room (k + 3) X.A) (S0 : FnScope N [x] scope)
    (hi : Ini 0 l (consD (Enc.enc : α → D) nilD) ini) (hbind : ∀ (pm cv ctv : Value) (u : Value), bindArgs (PySem.W.kla_fn "<lambda>" q params body scope [] pm cv ctv) ⟨[u], []⟩ = pure [(x, u)])
    (hbody : ∀ (f c' : Addr) (A : Around) (outer : List PySem.Env) (s : Shared) (H : Hp), Room k (A.deeper (envOfC q scope s.heap.objs.size f (.ref c'))) → PE (cxOf (L2.CX X.prog X.w) X.prog X.w X.K X.mg X.base N q scope f (.ref c') A outer s H fun _ _ _ => False) body (tME X.K l W0 (Enc.enc : κ → D) F)) :
    CallRK X (.builtin "sorted") [Str.ofString "key"] (rSortK X.K l.tabs q params body scope fun a => F (ini (a, ()))) := by
  intro pins s σ H vs zs us ws0 Q I r rz h
  obtain ⟨f, c', S, v, xs, P1, rfl, rfl, hf, hc, sub, rp, fl, hq⟩ := h
  obtain ⟨la, ws, rfl, hl, rl⟩ := Rp.lstF sub rp fl
  have hs : SqL X.K H la ws := SqL.of hl
  obtain ⟨its, rv, pl, hz⟩ := I.list hs
  rw [Vals.ref1 r]
  obtain ⟨w1, rfl, e1⟩ := vals1 rz
  obtain rfl : w1 = Value.ref f := e1
  have hq := RQ.bind hq
  obtain ⟨ks, eks, hq⟩ : ∃ ks, keysR (fun a => F (ini (a, ()))) xs = .ok ks ∧ ∀ w S' H' P3, Grow l.tabs S H S' H' → Rp X.K S' H' w (Enc.enc (((xs.zip ks).mergeSort fun p q => LeO.le p.2 q.2).map (·.1))) P3 → Md.ow.ok w P3 → (∀ x, P3 x → H x = none ∧ S' x = none) → Q w H' := by
    cases e : keysR (fun a => F (ini (a, ()))) xs with
    | ok ks => rw [e] at hq; exact ⟨ks, rfl, hq⟩
    | ex z => rw [e] at hq; exact hq.elim
    | stuck => rw [e] at hq; exact hq.elim
  have hkl := keysR_len eks
  have hwl : ws.length = xs.length := by rw [rl.len, List.length_map]
  have hvl : its.length = xs.length := by rw [← rv.length, hwl]
  have hZ : its.length ≤ sizeLine := by rw [← rv.length]; exact hz
  have ez : (ws.zip (xs.zip ks)).map (fun z : V × α × κ => toPy (Enc.enc z.2.2)) = (ks.map Enc.enc).map toPy := by
    have e2 : (ws.zip (xs.zip ks)).map (fun z : V × α × κ => z.2) = xs.zip ks := List.map_snd_zip (by rw [List.length_zip, hkl, Nat.min_self, hwl]; exact Nat.le_refl _)
    have e3 : (xs.zip ks).map (fun z : α × κ => z.2) = ks := List.map_snd_zip (by rw [hkl]; exact Nat.le_refl _)
    rw [List.map_map]
    calc (ws.zip (xs.zip ks)).map (fun z : V × α × κ => toPy (Enc.enc z.2.2)) = (((ws.zip (xs.zip ks)).map (fun z : V × α × κ => z.2)).map (fun z : α × κ => z.2)).map (toPy ∘ Enc.enc) := by rw [List.map_map, List.map_map]; rfl
      _ = _ := by rw [e2, e3]
  have hal : PySem.W.AllAlike ((ks.map Enc.enc).map toPy) := by
    rw [List.map_map]
    exact PySem.W.AllAlike.of fun b b' => o.al b b'
  have hsk : PySem.W.Sortable ((ks.map Enc.enc).map toPy) := by
    rw [List.map_map]
    exact o.so.elim (fun h => PySem.W.Sortable.tuples fun z => h z) fun h => PySem.W.Sortable.others fun z => h z
  have hu : ∀ d, d ∈ (ks.map Enc.enc).map toPy → X.A.in1.in1.units + d.depth < cLine := fun d hd => by
    rw [List.map_map] at hd
    obtain ⟨b, _, rfl⟩ := List.mem_map.mp hd
    have h1 : PyData.depthAll (toPys [Enc.enc b]) ≤ n := pd_depth (o.pd b)
    simp only [toPys, PyData.depthAll] at h1
    have h2 := Nat.le_max_left (PyData.depth (toPy (Enc.enc b))) 0
    have h3 := (hr.in1.in1).units
    show X.A.in1.in1.units + (toPy (Enc.enc b)).depth < cLine
    omega
  refine PySem.W.sorted_of_sort pl.isList hZ (ksk_s1 _ _) (fun _ => ksk_l1 _ _) fun E' => ?_
  show wpAny _ _ (Builtin.«list.sort» ⟨[.ref (s.heap.objs.size + 1)], [(Str.ofString "key", .ref f)]⟩) _ _ _
  rw [ksk_t1]
  have hoA : (PySem.W.copyHeap s.heap its).get? (s.heap.objs.size + 1) = some (seqObj "list" its.toArray 0) := PySem.W.copyHeap_at s.heap its
  have ha : s.heap.objs.size + 1 < (PySem.W.copyHeap s.heap its).objs.size := Heap.lt_size hoA
  obtain ⟨e1, ho1⟩ : ∃ e1, ((PySem.W.copyHeap s.heap its).update (s.heap.objs.size + 1) (Obj.mapSeq fun _ => (#[] : Array Value))).get? (s.heap.objs.size + 1) = some (seqObj "list" #[] e1) := ⟨_, get?_update_seq hoA fun _ => #[]⟩
  have hkS : (((PySem.W.copyHeap s.heap its).update (s.heap.objs.size + 1) (Obj.mapSeq fun _ => (#[] : Array Value))).push (seqObj "tuple" its.toArray 0)).objs.size = (PySem.W.copyHeap s.heap its).objs.size + 1 := by rw [size_push', Heap.size_update]
  unfold ksk_tree
  refine wpAny_bind (listItems_at hoA rfl ?_)
  refine wpAny_bind (listUpdate_at hoA rfl ?_ (by rw [List.size_toArray]; exact hZ) (Nat.zero_le _))
  refine wpAny_bind (seqEpoch_at ho1 rfl ?_)
  refine wpAny_bind (wpAny_newTuple ?_ (by show its.length ≤ _; exact hZ))
  refine wpAny_bind (wpAny_newList ?_ (Nat.zero_le _))
  refine wpAny_holding ?_
  have kold : ∀ b u, s.heap.get? b = some u → (PySem.W.sortingHeap (PySem.W.copyHeap s.heap its) (s.heap.objs.size + 1) its).get? b = some u := fun b u e => PySem.W.sortingHeap_old (Nat.ne_of_lt (Nat.lt_succ_of_lt (Heap.lt_size e))) (PySem.W.copyHeap_old e)
  have I1 : Inv X pins σ H { s with heap := PySem.W.sortingHeap (PySem.W.copyHeap s.heap its) (s.heap.objs.size + 1) its } := I.kept (t' := s.toks) kold
  have fa : FpOk X pins H (s.heap.objs.size + 1) := I.fpOk (Nat.le_succ _) (I.hok.fresh (Nat.le_succ _))
  have hge : s.heap.objs.size ≤ (((PySem.W.copyHeap s.heap its).update (s.heap.objs.size + 1) (Obj.mapSeq fun _ => (#[] : Array Value))).push (seqObj "tuple" its.toArray 0)).objs.size := by rw [hkS]; omega
  have fk : FpOk X pins H (((PySem.W.copyHeap s.heap its).update (s.heap.objs.size + 1) (Obj.mapSeq fun _ => (#[] : Array Value))).push (seqObj "tuple" its.toArray 0)).objs.size := I.fpOk hge (I.hok.fresh hge)
  refine key_rest (X := X) (pins := pins) (σ := σ) (H := H) (S := S) (τ := l.tabs) (s := { s with heap := PySem.W.sortingHeap (PySem.W.copyHeap s.heap its) (s.heap.objs.size + 1) its }) (ks := ks.map Enc.enc) (nD := n) I1 sub fk fa (Nat.ne_of_gt (by rw [hkS]; exact Nat.lt_succ_of_lt ha)) (Heap.get?_push_size _ rfl) (Heap.get?_push_of_some _ (Heap.get?_push_of_some _ ho1)) (by rw [List.length_map, hkl, hvl]) hZ hal hsk hu (pd_map o.pd ks) (fun j v d hj hd S' H' s' g I' => ?_) fun S' H' s' out c g I' fa' ha' ko => ⟨rfl, ?_⟩
  · have hlt : j < xs.length := by rw [← hvl]; exact (List.getElem?_eq_some_iff.mp hj).1
    have hxj : xs[j]? = some xs[j] := List.getElem?_eq_getElem hlt
    obtain ⟨kk, hk1, hk2⟩ : ∃ kk, ks[j]? = some kk ∧ Enc.enc kk = d := by
      rw [List.getElem?_map] at hd
      obtain ⟨kk, h1, h2⟩ := Option.map_eq_some_iff.mp hd
      exact ⟨kk, h1, h2⟩
    have hkey := keysR_at eks hxj hk1
    obtain ⟨w, ew, rw'⟩ := Rep.getE rl (i := j) (d := Enc.enc xs[j]) (by rw [List.getElem?_map, hxj]; rfl)
    obtain ⟨u, hu', ru⟩ := rv.get ew
    rw [hj] at hu'
    cases hu'
    obtain ⟨⟨pm, ctv, hfo⟩, _, _⟩ := I'.hok f _ (g.h.at_ _ _ funO_nt hf)
    obtain ⟨⟨oc, vs', t, hoc, hdc, hvc⟩, _, _⟩ := I'.hok c' _ (g.h.at_ _ _ LamX.codeO_ne hc)
    have r0 : Rp X.K S' H' w (Enc.enc xs[j]) Emp := rw'.grow g
    have env := hi.ini (pre := []) (vs := [w]) (r := List.replicate (N.length - 1) none) (a := (xs[j], ())) rfl (show Rep X.K S' H' [w] [Enc.enc xs[j]] Emp from r0)
    refine wpAny_call (codeAny_mono (lam_run (CX := L2.CX X.prog X.w) (N := N) (k := k) (E := fun _ _ _ => False) (Q := fun v2 H2 => ∃ S2, Grow l.tabs S' H' S2 H2 ∧ Rp X.K S2 H2 v2 d Emp) hr.in1.in1 I'.env0.in1.in1 hfo ⟨oc, vs', t, hoc, hdc, hvc⟩ S0 (hbind pm _ ctv v) ru (hbody f c' _ _ s' H') ?_) fun r s2 hr2 => ?_)
    · refine ⟨S', ini (xs[j], ()), Emp, ⟨g.sub, fun _ z => z.elim, fun _ z => z.elim⟩, env, ?_⟩
      rw [hkey]
      exact fun v2 S2 H2 g2 r2 => ⟨S2, g2, by rw [← hk2]; exact r2⟩
    · cases r with
      | error e => exact (cx_false hr2).elim
      | ok fl =>
        cases fl with
        | next => exact False.elim hr2
        | brk => exact False.elim hr2
        | cont => exact False.elim hr2
        | ret u2 =>
          obtain ⟨v2, H2, os, bare, un, hok, rv2, S2, g2, r2⟩ := (show CE X.stack X.prog X.w H' _ _ u2 s2 from hr2)
          exact ⟨v2, S2, H2, I'.call' os un hok bare (fun b y => absurd y List.not_mem_nil), un, g2, rv2, r2⟩
  · have e0 : PySem.W.EachIs (fun u (z : V × α × κ) => RelV z.1 u) its (ws.zip (xs.zip ks)) := vals_zip _ rv (by rw [List.length_zip, hkl, Nat.min_self, hwl])
    rw [← ez] at ko
    have eo := PySem.W.keyedOut_each _ ko e0
    have vo := vals_out eo
    have hlo : ((ws.zip (xs.zip ks)).mergeSort (PySem.W.dataLe false fun z : V × α × κ => toPy (Enc.enc z.2.2))).length = ws.length := by
      rw [List.length_mergeSort, List.length_zip, List.length_zip, hkl, Nat.min_self, hwl, Nat.min_self]
    have na : H' (s.heap.objs.size + 1) = none := fa'.1
    have I2 : Inv X pins σ (upd H' (s.heap.objs.size + 1) (.lst (((ws.zip (xs.zip ks)).mergeSort (PySem.W.dataLe false fun z : V × α × κ => toPy (Enc.enc z.2.2))).map (·.1)))) s' :=
      inv_track I' fa' (show ObjOk X.prog X.w _ _ _ (.lst _) from ⟨by rw [List.length_map, hlo]; exact hz, out, c, vo, ha'⟩)
    have zm : ∀ z ∈ ws.zip (xs.zip ks), Rp X.K S H z.1 (Enc.enc z.2.1) Emp := fun z hz => by
      obtain ⟨i, hi⟩ := List.getElem?_of_mem hz
      rw [List.getElem?_zip_eq_some, List.getElem?_zip_eq_some] at hi
      obtain ⟨w, e3, rw'⟩ := Rep.getE rl (i := i) (d := Enc.enc z.2.1) (by rw [List.getElem?_map, hi.2.1]; rfl)
      rw [hi.1] at e3
      cases e3
      exact rw'
    have key : ∀ zs : List (V × α × κ), (∀ z ∈ zs, Rp X.K S H z.1 (Enc.enc z.2.1) Emp) → Rep X.K S H (zs.map (·.1)) ((zs.map (·.2.1)).map Enc.enc) Emp := fun zs => by
      induction zs with
      | nil => exact fun _ => .nil
      | cons z zs ih => exact fun k => (k z List.mem_cons_self).joinE (ih fun y hy => k y (List.mem_cons_of_mem _ hy))
    have e5 : (((ws.zip (xs.zip ks)).mergeSort (PySem.W.dataLe false fun z : V × α × κ => toPy (Enc.enc z.2.2))).map (·.2.1)) = ((xs.zip ks).mergeSort fun p q => LeO.le p.2 q.2).map (·.1) := by
      have e6 : ((ws.zip (xs.zip ks)).mergeSort (PySem.W.dataLe false fun z : V × α × κ => toPy (Enc.enc z.2.2))).map (·.2) = (xs.zip ks).mergeSort fun p q => LeO.le p.2 q.2 := by
        rw [List.map_mergeSort (s := fun p q : α × κ => LeO.le p.2 q.2) (fun x _ y _ => o.le x.2.2 y.2.2), List.map_snd_zip (by rw [List.length_zip, hkl, Nat.min_self, hwl]; exact Nat.le_refl _)]
      rw [← e6, List.map_map]
      rfl
    have r2 := key ((ws.zip (xs.zip ks)).mergeSort (PySem.W.dataLe false fun z : V × α × κ => toPy (Enc.enc z.2.2))) fun z hz => zm z (List.mem_mergeSort.mp hz)
    rw [e5] at r2
    obtain ⟨g3, r3, o3, n3⟩ := own_lst g.sub na (r2.grow g)
    refine ⟨.ref _, _, I2, rfl, hq _ S' _ _ (g.trans g3) r3 o3 fun x e => ⟨g.h.free (n3 x e).1, (n3 x e).2⟩⟩
end M

namespace M
open Enc (enc)
open PySem PySem.Spec PyProof.Rows L2 W
theorem sortK_nox {α κ : Type} [LeO κ] {key : α → Res κ} (xs : List α) : NoX (sortK key xs) := fun e h => by
  unfold sortK at h
  cases e1 : keysR key xs with
  | ex z => exact keysR_nox xs z e1
  | stuck => rw [e1] at h; cases h
  | ok ks => rw [e1] at h; cases h
/-- sorted(e, key=lambda x: ..) -/
theorem mo_sortK {α κ T : Type} [Enc α] [LeO κ] {X : Cx} {l : Lay T} {W : WX} {e : Expr} {f : T → Res (List α)} {q : Str} {params : Arguments} {body : Expr} {scope : Scope} {key : α → Res κ} {p pos lpos kpos : Pos} (hc : CallRK X (.builtin "sorted") [Str.ofString "key"] (rSortK X.K l.tabs q params body scope key))
    (hlam : PE X (.Lambda params body scope lpos) (tLamb l.tabs q params body scope)) (hg : Gl X "sorted") (hm : X.mg "sorted" = none) (he : PE X e (tMB X.K l W (Enc.enc : List α → D) f)) (hs : starEach [e] X.env = (false, eval e X.env) :: starEach [] X.env := by rfl)
    (he2 : backTo pos (starEach [e] X.env) = (false, eval e X.env) :: backTo pos (starEach [] X.env) := by rfl) (hpl : (backTo pos (starEach [e] X.env)).any (·.1) = false := by rfl)
    (hall : (backToKw pos (keywordEach [⟨some (Str.ofString "key"), .Lambda params body scope lpos, kpos⟩] X.env)).all (·.1.isSome) = true := by rfl) (hnone : (backToKw pos (keywordEach [⟨some (Str.ofString "key"), .Lambda params body scope lpos, kpos⟩] X.env)).any (·.1.isNone) = false := by rfl)
    (hks : (backToKw pos (keywordEach [⟨some (Str.ofString "key"), .Lambda params body scope lpos, kpos⟩] X.env)).filterMap (·.1) = [Str.ofString "key"] := by rfl) :
    PE X (.Call (.Name "sorted" p) [e] [⟨some (Str.ofString "key"), .Lambda params body scope lpos, kpos⟩] pos) (tMO X.K l W .ow (Enc.enc : List α → D) (op1 (sortK key) f)) :=
  PE.imp (pe_callBK hc hg hm (by decide +kernel) (mab_cons he mab_nil hs) (pk_cons hlam pk_nil) (by decide) (by decide) he2 hpl hall hnone hks) fun σ H Q ⟨S, t, P, c, E, q⟩ => ⟨S, t, P, c, E, by
    have q2 := q.bind
    show RQ ((f t).bind fun a => (Res.ok ()).bind fun b => Res.ok (a, b)) _ _
    cases hf : f t with
    | stuck => rw [hf] at q2; exact q2.elim
    | ex z => rw [hf] at q2; exact q2
    | ok xs =>
      rw [hf] at q2
      intro vs S1 H1 g1 r
      cases r with
      | cons r1 f1 k1 r2 =>
        cases r2
        refine ⟨g1.sub.tb, fun fa c' H2 sn tb hfa hc' => ?_⟩
        have g2 : Grow l.tabs S1 H1 S1 H2 := ⟨SL.refl S1, rfl, sn, g1.sub.sameN sn tb, fun x o e => .inl ⟨o, e⟩⟩
        have q3 : RQ (sortK key xs) (fun ys => ∀ v S' H' P1, Grow l.tabs S H S' H' → Rp X.K S' H' v (Enc.enc ys) P1 → Md.ow.ok v P1 → (∀ x, P1 x → H x = none ∧ S' x = none) → Q v H') _ := q2
        exact ⟨fa, c', S1, _, xs, _, rfl, rfl, hfa, hc', g2.sub, r1.grow g2, f1, (q3.nox (sortK_nox xs)).imp (fun ys q w S' H' P3 g3 r3 o3 n3 => q w S' H' P3 ((g1.trans g2).trans g3) r3 o3 fun x e => ⟨g1.h.free (g2.h.free (n3 x e).1), (n3 x e).2⟩) fun _ z => z⟩⟩
end M
namespace M
open Enc (enc)
open PySem PySem.Spec PyProof.Rows L2 W
/-! ### defs that make lambdas -/
theorem fund_okL {P : Program} {w : World} {K : PySem.W.Frag} {mg : Str → Option Value} {base : Heap} {x qual : Str} {params : Arguments} {body : List Stmt} {scope : Scope} {dvs : List V} {kws : List (Str × V)} {kp : Str × Option Str} {fd : FuncData} {CX : CXT} {N ps : List Str} {k : Nat} {sp : Sp}
    (F : FunD K x qual params body scope dvs kws (He.fAd K kp) fd) (S : FnScope N ps scope) (len : ∀ vs H Q E, sp vs H Q E → vs.length = ps.length)
    (hbody : ∀ (cdv : Value), cdv = .ref (He.cT K kp).1 → ∀ (A : Around) (outer : List PySem.Env) (s : Shared) (H : Hp) (vs : List V) (Q : VK) (E : XK), Room k (A.deeper (envOfC qual scope s.heap.objs.size (He.fAd K kp) cdv)) → sp vs H Q E →
      ∃ t, PSs (cxOf CX P w K mg base N qual scope (He.fAd K kp) cdv A outer s H E) body t ∧ t { nx := fun _ H' => Q .non H', rt := Q } (L2.start N vs) H) : FnOk P w K mg base CX (k + 1) (He.fAd K kp) fd ps sp := by
  obtain ⟨oc, od, dV, kV, doc, pm, an, cdv, ct, osl, rfl, lk, hcd, _, _⟩ := F.ex
  obtain ⟨c, rfl⟩ := He.codeIn_ref hcd
  exact fn_of lk hcd S len fun A outer s H vs Q E hr hsp => hbody (.ref c) (by rw [show (He.cT K kp).1 = c from He.codeOf_eq lk rfl]) A outer s H vs Q E hr hsp
/-- the makers' tables, in the heap below -/
structure TabX (tf : List He.Defn) (K : PySem.W.Frag) (mg : Str → Option Value) (base : Heap) : Prop where
  t : ∀ p ∈ tf, LamX.TabB base mg (He.cT K p).1 (He.cT K p).2
def tblB (τ : TL) : Bool := τ.tabs.all fun p => τ.tabs.all fun q => decide (p.1 = q.1 → p.2 = q.2)
theorem tblB_ok {τ : TL} (h : tblB τ = true) {P : Addr} {n : Str} (hm : (P, n) ∈ τ.tabs) : ∀ p ∈ τ.tabs, p.1 = P → p.2 = n := fun p hp e => of_decide_eq_true (List.all_eq_true.mp (List.all_eq_true.mp h p hp) _ hm) e
section
variable {P : Program} {w : World} {K : PySem.W.Frag} {mg : Str → Option Value} {base : Heap} {T α β : Type} {k : Nat} {f : Addr} {fd : FuncData} {x qual : Str} {params : Arguments} {body : List Stmt} {scope : Scope} {dvs : List V} {kws : List (Str × V)} {N ps : List Str} {l : Lay T} {ea : α → List D} {mr : Md} {er : β → D} {F : T → Out T β} {ini : α → T}
theorem def_okL {n : Nat} {kp : Str × Option Str} (D : FunD K x qual params body scope dvs kws (He.fAd K kp) fd) (Sc : FnScope N ps scope) (hn : N.length = n) (hi : Ini 0 l ea ini) (hl : ∀ a, (ea a).length = ps.length)
    (hb : ∀ (cdv : Value) (hcd : cdv = .ref (He.cT K kp).1) (A : Around) (outer : List PySem.Env) (s : Shared) (H : Hp) (E : XK), Room k (A.deeper (envOfC qual scope s.heap.objs.size (He.fAd K kp) cdv)) → MSs (cxOf (L2.CX P w) P w K mg base N qual scope (He.fAd K kp) cdv A outer s H E) l n (fun cls d _ H => E cls d H) mr er body F) (hw : l.noW = true := by rfl) :
    FnOk P w K mg base (L2.CX P w) (k + 1) (He.fAd K kp) fd ps (spP K l.tabs ea mr er fun a => endF (F (ini a))) := by
  refine fund_okL D Sc (fun vs H Q E ⟨S, a, s, r, q⟩ => by rw [r.len, hl]) fun cdv hcd A outer s H vs Q E hr ⟨S, a, sub, r, q⟩ => ⟨_, hb cdv hcd A outer s H E hr, S, ini a, Emp, ⟨sub, fun _ z => z.elim, fun _ z => z.elim⟩, ?_, ?_, ?_⟩
  · have := hi.ini (pre := []) (vs := vs) (r := List.replicate (N.length - vs.length) none) rfl r
    exact this
  · have hv : vs.length = ps.length := by rw [r.len, hl]
    have hle : ps.length ≤ N.length := by
      have := congrArg List.length Sc.pre
      rw [List.length_take] at this
      omega
    unfold L2.start
    simp only [List.length_append, List.length_map, List.length_replicate]
    omega
  · replace q := endF_q (o := F (ini a)) q
    revert q
    generalize F (ini a) = o
    intro q
    cases o with
    | rt r t => exact fun v σ S' H' P' Pr g E r o d => q v S' H' Pr ⟨g.s, g.mu (l.noW_w hw), ⟨fun x o n e => g.keep x o id n e, fun e => (g.free _ e).elim False.elim id⟩, g.cfg.sub, fun x o e => (g.new x o e).elim .inl fun z => z.elim False.elim .inr⟩ r o fun x e => ⟨(g.fp x (.inr e)).elim False.elim id, g.cfg.sep x (.inr e)⟩
    | ex e t => exact fun cls d σ S' H' P' g E hl x => q S' H' cls d ⟨g.s, g.mu (l.noW_w hw), ⟨fun x o n e => g.keep x o id n e, fun e => (g.free _ e).elim False.elim id⟩, g.cfg.sub, fun x o e => (g.new x o e).elim .inl fun z => z.elim False.elim .inr⟩ x
    | nx t => exact q.elim
    | bk t => exact q.elim
    | ct t => exact q.elim
    | stuck => exact q.elim
theorem def_okUL {n : Nat} {kp : Str × Option Str} {F : T → Out T Unit} (D : FunD K x qual params body scope dvs kws (He.fAd K kp) fd) (Sc : FnScope N ps scope) (hn : N.length = n) (hi : Ini 0 l ea ini) (hl : ∀ a, (ea a).length = ps.length)
    (hb : ∀ (cdv : Value) (hcd : cdv = .ref (He.cT K kp).1) (A : Around) (outer : List PySem.Env) (s : Shared) (H : Hp) (E : XK), Room k (A.deeper (envOfC qual scope s.heap.objs.size (He.fAd K kp) cdv)) → MSs (cxOf (L2.CX P w) P w K mg base N qual scope (He.fAd K kp) cdv A outer s H E) l n (fun cls d _ H => E cls d H) .sh (Enc.enc : Unit → M.D) body F) (hw : l.noW = true := by rfl) :
    FnOk P w K mg base (L2.CX P w) (k + 1) (He.fAd K kp) fd ps (spP K l.tabs ea .sh (Enc.enc : Unit → M.D) fun a => endU (F (ini a))) := by
  refine fund_okL D Sc (fun vs H Q E ⟨S, a, s, r, q⟩ => by rw [r.len, hl]) fun cdv hcd A outer s H vs Q E hr ⟨S, a, sub, r, q⟩ => ⟨_, hb cdv hcd A outer s H E hr, S, ini a, Emp, ⟨sub, fun _ z => z.elim, fun _ z => z.elim⟩, ?_, ?_, ?_⟩
  · have := hi.ini (pre := []) (vs := vs) (r := List.replicate (N.length - vs.length) none) rfl r
    exact this
  · have hv : vs.length = ps.length := by rw [r.len, hl]
    have hle : ps.length ≤ N.length := by
      have := congrArg List.length Sc.pre
      rw [List.length_take] at this
      omega
    unfold L2.start
    simp only [List.length_append, List.length_map, List.length_replicate]
    omega
  · replace q := endU_q (o := F (ini a)) q
    revert q
    generalize F (ini a) = o
    intro q
    have gg : ∀ {S' H' P'}, Grw l.tabs S H Emp S' H' P' → Grow l.tabs S H S' H' := fun g => ⟨g.s, g.mu (l.noW_w hw), ⟨fun x o n e => g.keep x o id n e, fun e => (g.free _ e).elim False.elim id⟩, g.cfg.sub, fun x o e => (g.new x o e).elim .inl fun z => z.elim False.elim .inr⟩
    cases o with
    | rt r t => exact fun v σ S' H' P' Pr g E r o d => q v S' H' Pr (gg g) r o fun x e => ⟨(g.fp x (.inr e)).elim False.elim id, g.cfg.sep x (.inr e)⟩
    | ex e t => exact fun cls d σ S' H' P' g E hl x => q S' H' cls d (gg g) x
    | nx t => exact fun σ S' H' P' g E hl => q .non S' H' Emp (gg g) (Rep.non .nil) rfl fun _ z => z.elim
    | bk t => exact q.elim
    | ct t => exact q.elim
    | stuck => exact q.elim
end
end M
namespace M
open Enc (enc)
open PySem PySem.Spec PyProof.Rows L2 W
/-! ### the head's facts, with tables -/
/-- the makers and their lambdas' names: the tables -/
abbrev tbsOf (tfn : List (He.Defn × Str)) (K : PySem.W.Frag) : TL := ⟨tfn.map fun p => ((He.cT K p.1).2, p.2), false⟩
theorem tb_mem {tfn : List (He.Defn × Str)} {K : PySem.W.Frag} {p : He.Defn × Str} (j : Nat) (h : tfn[j]? = some p) : ((He.cT K p.1).2, p.2) ∈ (tbsOf tfn K).tabs := List.mem_map.mpr ⟨p, List.mem_of_getElem? h, rfl⟩
theorem tabx_at {tfn : List (He.Defn × Str)} {K : PySem.W.Frag} {mg : Str → Option Value} {base : Heap} {p : He.Defn × Str} (U : TabX (tfn.map (·.1)) K mg base) (j : Nat) (h : tfn[j]? = some p) : LamX.TabB base mg (He.cT K p.1).1 (He.cT K p.1).2 := U.t _ (List.mem_map.mpr ⟨p, List.mem_of_getElem? h, rfl⟩)
structure SaysWT (fa : List He.Fa) (fn : List He.DefD) (tf : List He.Defn) (ex : PySem.W.Frag → Bool) (h : Heap) (K : PySem.W.Frag) : Prop where
  d : He.SaysD fa fn K
  more : ex K = true
  hd : ∀ p ∈ tf, PySem.W.codeHdIn K (He.cT K p).1 (He.cT K p).2 = true
  out : ∀ p ∈ tf, K.lookup (He.cT K p).2 = none
  empty : ∀ p ∈ tf, h.get? (He.cT K p).2 = some { cls := .none, data := .fields #[] }
def obsWT (n : Nat) (fa : List He.Fa) (fn : List He.DefD) (tf : List He.Defn) (ex : PySem.W.Frag → Bool) (g : Addr → Option Obj) : He.AlD × Bool := (He.obsD fa fn (He.frT g (W.asW g n)), ex (He.frT g (W.asW g n)) && He.tabsB g tf (He.frT g (W.asW g n)))
theorem saysWT_of {n : Nat} {fa : List He.Fa} {fn : List He.DefD} {tf : List He.Defn} {ex : PySem.W.Frag → Bool} {h : Heap} (e : obsWT n fa fn tf ex h.get? = (He.valD fn, true)) : SaysWT fa fn tf ex h (He.frT h.get? (W.asW h.get? n)) := by
  have e1 : He.obsD fa fn (He.frT h.get? (W.asW h.get? n)) = He.valD fn := congrArg (fun z : He.AlD × Bool => z.1) e
  have e2 : (ex (He.frT h.get? (W.asW h.get? n)) && He.tabsB h.get? tf (He.frT h.get? (W.asW h.get? n))) = true := congrArg (fun z : He.AlD × Bool => z.2) e
  obtain ⟨h1, h2⟩ := He.ba e2
  have key : ∀ p ∈ tf, PySem.W.codeHdIn (He.frT h.get? (W.asW h.get? n)) (He.cT (He.frT h.get? (W.asW h.get? n)) p).1 (He.cT (He.frT h.get? (W.asW h.get? n)) p).2 = true ∧ ∃ o, h.get? (He.cT (He.frT h.get? (W.asW h.get? n)) p).2 = some o ∧ He.emptyTab o = true := fun p hp => by
    obtain ⟨h3, h4⟩ := He.ba (List.all_eq_true.mp h2 p hp)
    refine ⟨h3, ?_⟩
    cases q : h.get? (He.cT (He.frT h.get? (W.asW h.get? n)) p).2 with
    | none =>
      rw [q] at h4
      cases h4
    | some o =>
      rw [q] at h4
      exact ⟨o, rfl, h4⟩
  exact ⟨e1, h1, fun p hp => (key p hp).1, fun p hp => by
    obtain ⟨_, o, q, z⟩ := key p hp
    exact He.frT_none q z, fun p hp => by
    obtain ⟨_, o, q, z⟩ := key p hp
    rw [q, He.emptyTab_eq z]⟩
def hookWT (n : Nat) (fa : List He.Fa) (fn : List He.DefD) (tf : List He.Defn) (ex : PySem.W.Frag → Bool) : PySem.W.Hook where
  α := He.AlD × Bool
  obs := fun s => obsWT n fa fn tf ex s.heap.get?
  val := fun _ => (He.valD fn, true)
  says := fun _ h => ∃ K : PySem.W.Frag, K.In h ∧ SaysWT fa fn tf ex h K
  of := fun _ _ e => ⟨_, He.frT_in, saysWT_of e⟩
  keeps := fun _ _ _ ⟨K, hK, c⟩ k => ⟨K, PySem.W.Frag.In.keeps hK k, ⟨c.d, c.more, c.hd, c.out, fun p hp => k _ _ (c.empty p hp)⟩⟩
theorem obsWT_eq {n : Nat} {fa : List He.Fa} {fn : List He.DefD} {tf : List He.Defn} {ex : PySem.W.Frag → Bool} {g : Addr → Option Obj} {s : Shared} (h : ∀ a, g a = s.heap.get? a) : obsWT n fa fn tf ex g = (hookWT n fa fn tf ex).obs s := by
  have e : g = s.heap.get? := funext h
  rw [e] <;> rfl
theorem walk_ofTB {l : PySem.W.OpenLaw} {n k : Nat} {q : Program} {loose : List Str} {XP : (Str → Option Value) → Heap → Prop} {YP : World → Heap → Prop} {d : DefRec} {CX : CXT} {x : Str}
    (hn : l.most = some n) (hn2 : n ≤ sizeLine) (hdf : d.params.defaults = []) (hr : Room k callerA)
    (F : ∀ (w : World) (mg : Str → Option Value) (fa : Addr) (h : Heap), YP w h → h.Ns mainGlobals mg → mg d.name = some (.ref fa) →
      ∃ (K : PySem.W.Frag) (fd : FuncData) (cs : List (Addr × Addr)) (sp : Sp), K.In h ∧ (∀ p ∈ cs, h.get? p.2 = some { cls := .none, data := .fields #[] }) ∧ (∀ p ∈ cs, K.lookup p.2 = none) ∧ (∀ p ∈ cs, PySem.W.CodeHd h p.1 p.2) ∧ (∀ (s : Shared) (u : Value), BindsTo s fd ⟨[u], []⟩ [(x, u)]) ∧
        (∀ (H : Hp) (a : Addr) (ns : List Int), ns.length ≤ n → (∀ z ∈ ns, Builtin.Int.intBits z ≤ 1048576) → (∀ p ∈ cs, H p.2 = some (.tbl #[])) → SqL K H a (ns.map V.int) → sp [.ref a] H (fun v _ => v = .bl true) fun _ _ _ => False) ∧
        ∀ base : Heap, K.In base → base.Ns mainGlobals mg → (∀ p ∈ cs, LamX.TabB base mg p.1 p.2) → FnOk l.prog w K mg base CX k fa fd [x] sp)
    (hCX : ∀ (H : Hp) (s : Shared) (e : Value) (s' : Shared), CX [] H s (fun _ _ _ => False) e s' → False) :
    PySem.W.WalkO q loose XP YP l.row.toRowW d [] (fun f vs => PySem.call f vs) := by
  refine Att.attach_callB hn hdf fun w s₀ s₁ mg mb fa o pm cd doc a vs ns G Y ho hd hcd hmg hobj hints hlen hbits hg => ?_
  obtain ⟨K, fd, cs, sp, KX, hT, nT, C, hb, hsp, hF⟩ := F w mg fa _ Y G.T.g hmg
  exact LamX.law_callTs KX G.T.g G.T.b G.T.builtins G.T.nolimit hg hT nT C G.T.bmain hobj hints (Nat.le_trans hlen hn2) hr hF hb (fun H hH hS => hsp H a ns hlen hbits hH hS) fun H e s' => hCX H s₁ e s'
/-- all of it, for the head's end -/
theorem law_tabs {tfn : List (He.Defn × Str)} {K : PySem.W.Frag} {H : Hp} (h : ∀ p ∈ tfn.map (fun p => He.cT K p.1), H p.2 = some (.tbl #[])) : LamX.Tabs (tbsOf tfn K).tabs H := fun q hq => by
  obtain ⟨p, hp, e⟩ := List.mem_map.mp hq
  rw [← e]
  exact LamX.TabS.nil (h _ (List.mem_map.mpr ⟨p, hp, rfl⟩))
end M
namespace M
theorem tab_all {tfn : List (He.Defn × PySem.Str)} {K : PySem.W.Frag} {φ : PySem.Addr × PySem.Addr → Prop} (h : ∀ p ∈ tfn.map (·.1), φ (He.cT K p)) : ∀ p ∈ tfn.map (fun p => He.cT K p.1), φ p := fun p hp => by
  obtain ⟨q, hq, e⟩ := List.mem_map.mp hp
  rw [← e]
  exact h q.1 (List.mem_map.mpr ⟨q, hq, rfl⟩)
end M
namespace M
open Enc (enc)
open PySem PySem.Spec PyProof.Rows L2 W
/-! ### xs[::-1] -/
def tSlRev (K : PySem.W.Frag) (te : TE) (tst : TO) : TE := fun σ H Q => te σ H fun x H1 => tst σ H1 fun k H2 => k = some (-1) ∧ ∃ (a : Addr) (xs : List V), x = .ref a ∧ SqL K H2 a xs ∧ ∀ q, H2 q = none → Q (.ref q) (upd H2 q (.lst xs.reverse))
theorem pe_slRev {X : Cx} {e st : Expr} {te : TE} {tst : TO} {pos p2 : Pos} (he : PE X e te) (hst : PO X (some st) tst) : PE X (.Subscript e (.Slice none none (some st) p2) pos) (tSlRev X.K te tst) := by
  refine ⟨fun pins s σ H Q I h => ?_⟩
  refine Subscript_ (thn (he.run pins s σ H _ I h) fun v s1 ⟨x, H1, I1, r1, q1⟩ => ?_)
  refine wpAny_Slice ?_
  rw [evalPart_none]
  refine wpAny_pure ?_
  refine wpAny_pure (thn (hst.run pins s1 σ H1 _ I1 q1) fun vs s3 ⟨k, H3, I3, pk, q3⟩ => ?_)
  obtain ⟨rfl, a, xs, rfl, hx, q⟩ := q3
  cases r1
  have I4 : Inv X pins σ H3 { s3 with heap := s3.heap.push { cls := .type "slice", data := .fields #[.none, .none, vs] } } := I3.kept (t' := s3.toks) fun b ob q => Heap.get?_push_of_some _ q
  obtain ⟨its, r, ht, hz⟩ := I4.list hx
  have hs : (s3.heap.push { cls := .type "slice", data := .fields #[.none, .none, vs] }).IsSliceOf s3.heap.objs.size .none .none vs := Heap.IsSliceOf.new ..
  have hg : wpAny (model X.prog X.w) X.A (getItem (.ref a) (.ref s3.heap.objs.size)) (EP X pins σ Q) X.xe { s3 with heap := s3.heap.push { cls := .type "slice", data := .fields #[.none, .none, vs] } } := by
    refine wpAny_getItem_list_slice ht.isList hs .none .none pk (by decide) ?_ (by rw [List.size_toArray, ← r.length]; exact hz)
    rw [PySem.W.krv_pick]
    refine ⟨.ref _, _, I4.laid (t' := s3.toks) (o := .lst xs.reverse) (fun b ob q => Heap.get?_push_of_some _ q) (Nat.le_refl _) ?_, rfl, q _ (I4.hok.fresh (Nat.le_refl _))⟩
    exact ⟨by rw [List.length_reverse]; exact hz, _, 0, r.reverse, Heap.get?_push_size _ rfl⟩
  show wpAny (model X.prog X.w) X.A (subscriptTail e (.Slice none none (some st) p2) (.ref a) (.ref s3.heap.objs.size)) (EP X pins σ Q) X.xe { s3 with heap := s3.heap.push { cls := .type "slice", data := .fields #[.none, .none, vs] } }
  exact tail_any (ops := [.ref a, .ref s3.heap.objs.size]) ht.isList.typeIs slot_list_getitem.lookup hg rfl
theorem mo_slRev {X : Cx} {T α : Type} [Enc α] {l : Lay T} {W : WX} {e st : Expr} {f : T → Res (List α)} {pos p2 : Pos} (he : PE X e (tMB X.K l W (Enc.enc : List α → D) f)) (hst : PE X st (tME X.K l W eI fun _ => .ok (-1))) : PE X (.Subscript e (.Slice none none (some st) p2) pos) (tMO X.K l W .ow (Enc.enc : List α → D) (op1 (fun xs => .ok xs.reverse) f)) :=
  PE.imp (pe_slRev he (mp_some hst)) fun σ H Q ⟨S, t, P, c, E, q⟩ => ⟨S, t, P, c, E, q.bind.imp (fun a q v S1 H1 P1 g1 r1 f1 _ => ⟨S1, t, P, c.grow g1, E.grow g1, fun S2 H2 g2 => by
    refine ⟨rfl, ?_⟩
    obtain ⟨p, ws, rfl, h, r⟩ := Rp.lstF g2.sub (r1.grow g2) f1
    refine ⟨p, ws, rfl, SqL.of h, fun d hd => ?_⟩
    obtain ⟨g3, r3, o3, n3⟩ := own_lst g2.sub hd (Rep.rev r)
    refine (show ∀ v S2 H2 P1, Grow l.tabs S H S2 H2 → Rp X.K S2 H2 v (Enc.enc a.reverse) P1 → Md.ow.ok v P1 → (∀ x, P1 x → H x = none ∧ S2 x = none) → Q v H2 from q) _ S2 _ _ ((g1.trans g2).trans g3) ?_ o3 fun x e => ⟨g1.h.free (g2.h.free (n3 x e).1), (n3 x e).2⟩
    show Rp X.K S2 _ _ (.lst (a.reverse.map Enc.enc)) _
    rw [List.map_reverse]
    exact r3⟩) fun _ z => z⟩
theorem me_m1 {X : Cx} {T : Type} {l : Lay T} {W : WX} {p1 p2 : Pos} {j} : PE X (.UnaryOp .USub (.Constant (.int 1) j p1) p2) (tME X.K l W eI fun _ => .ok (-1)) := me_un un_neg o_neg (me_b me_int)
end M

namespace M
open Enc (enc)
open PySem PySem.Spec PyProof.Rows L2 W
/-! ### dicts -/
/-- a key as a value -/
class KyE (κ : Type) [KyC κ] [Enc κ] : Prop where
  val : ∀ {K : PySem.W.Frag} {S : Sh} {H : Hp} {v : V} {P : FP} (k : κ), Rp K S H v (enc k) P → v = kV (KyC.ky k) ∧ kOk (KyC.ky k) = true ∧ P = Emp
  rep : ∀ {K : PySem.W.Frag} {S : Sh} {H : Hp} (k : κ), kOk (KyC.ky k) = true → Rp K S H (kV (KyC.ky k)) (enc k) Emp
  inj : ∀ a b : κ, (KyC.ky a : Ky) = KyC.ky b → a = b
instance : KyE Int := ⟨fun k r => by obtain ⟨rfl, e⟩ := Rp.int r; exact ⟨rfl, rfl, e⟩, fun k _ => Rep.int k .nil, fun a b e => by cases e; rfl⟩
instance : KyE Str := ⟨fun k r => by obtain ⟨rfl, e, o⟩ := Rp.str r; exact ⟨rfl, o, e⟩, fun k o => Rep.str k o .nil, fun a b e => by cases e; rfl⟩
abbrev ksD {κ α : Type} [KyC κ] (kvs : List (κ × α)) : List Ky := kvs.map fun kv => KyC.ky kv.1
abbrev vsD {κ α : Type} [Enc α] (kvs : List (κ × α)) : List D := kvs.map fun kv => enc kv.2
section
variable {κ α : Type} [KyC κ] [Enc κ] [KyE κ] [DecidableEq κ] [Enc α] {K : PySem.W.Frag} {S : Sh} {H : Hp}
theorem val_get : ∀ {kvs : List (κ × α)} {ws : List V} (k : κ), Rep K S H ws (vsD kvs) Emp → match getK kvs k with
    | none => valV ((ksD kvs).zip ws) (KyC.ky k) = none
    | some a => ∃ v, valV ((ksD kvs).zip ws) (KyC.ky k) = some v ∧ Rp K S H v (enc a) Emp
  | [], ws, k, _ => rfl
  | p :: r, ws, k, h => by
    obtain ⟨v, us, rfl, h1, h2⟩ := Rep.splitE h
    unfold getK
    by_cases e : p.1 = k
    · rw [if_pos e]
      exact ⟨v, valV_pos (p := (KyC.ky p.1, v)) (by rw [← e]), h1⟩
    · rw [if_neg e]
      have ih := val_get k h2
      have ne : ¬ ((KyC.ky p.1 : Ky), v).1 = KyC.ky k := fun z => e (KyE.inj _ _ z)
      have e2 : valV ((ksD (p :: r)).zip (v :: us)) (KyC.ky k) = valV ((ksD r).zip us) (KyC.ky k) := valV_neg (p := (KyC.ky p.1, v)) ne
      rw [e2]
      exact ih
theorem val_none {kvs : List (κ × α)} {ws : List V} {k : κ} (r : Rep K S H ws (vsD kvs) Emp) : (valV ((ksD kvs).zip ws) (KyC.ky k)).isSome = (getK kvs k).isSome := by
  have h := val_get k r
  revert h
  cases getK kvs k with
  | none => intro h; rw [show valV ((ksD kvs).zip ws) (KyC.ky k) = none from h]; rfl
  | some a => intro h; obtain ⟨v, h, _⟩ := h; rw [h]; rfl
theorem rep_val : ∀ {kvs : List (κ × α)} {ws : List V} (k : κ) {v : V} {a : α}, Rep K S H ws (vsD kvs) Emp → Rp K S H v (enc a) Emp → ∃ ws', (((ksD kvs).zip ws).map fun kv => if kv.1 = KyC.ky k then (kv.1, v) else kv) = (ksD (repK kvs k a)).zip ws' ∧ Rep K S H ws' (vsD (repK kvs k a)) Emp
  | [], ws, k, v, a, h, _ => ⟨[], rfl, .nil⟩
  | p :: r, ws, k, v, a, h, hv => by
    obtain ⟨w, us, rfl, h1, h2⟩ := Rep.splitE h
    obtain ⟨ws', e1, r1⟩ := rep_val k h2 hv
    by_cases e : p.1 = k
    · refine ⟨v :: ws', ?_, ?_⟩
      · show (if KyC.ky p.1 = KyC.ky k then (KyC.ky p.1, v) else (KyC.ky p.1, w)) :: (((ksD r).zip us).map fun kv => if kv.1 = KyC.ky k then (kv.1, v) else kv) = _
        rw [if_pos (by rw [e]), e1]
        show _ = (ksD ((if p.1 = k then (p.1, a) else p) :: repK r k a)).zip (v :: ws')
        rw [if_pos e]
        rfl
      · show Rep K S H (v :: ws') (vsD ((if p.1 = k then (p.1, a) else p) :: repK r k a)) Emp
        rw [if_pos e]
        exact hv.joinE r1
    · refine ⟨w :: ws', ?_, ?_⟩
      · show (if KyC.ky p.1 = KyC.ky k then (KyC.ky p.1, v) else (KyC.ky p.1, w)) :: (((ksD r).zip us).map fun kv => if kv.1 = KyC.ky k then (kv.1, v) else kv) = _
        rw [if_neg (fun z => e (KyE.inj _ _ z)), e1]
        show _ = (ksD ((if p.1 = k then (p.1, a) else p) :: repK r k a)).zip (w :: ws')
        rw [if_neg e]
        rfl
      · show Rep K S H (w :: ws') (vsD ((if p.1 = k then (p.1, a) else p) :: repK r k a)) Emp
        rw [if_neg e]
        exact h1.joinE r1
theorem put_val {kvs : List (κ × α)} {ws : List V} (k : κ) {v : V} {a : α} (r : Rep K S H ws (vsD kvs) Emp) (hv : Rp K S H v (enc a) Emp) : ∃ ws', putK ((ksD kvs).zip ws) (KyC.ky k) v = (ksD (putKv kvs k a)).zip ws' ∧ Rep K S H ws' (vsD (putKv kvs k a)) Emp := by
  have en := val_none (k := k) r
  unfold putK putKv
  rw [valV_any, en]
  by_cases h : (getK kvs k).isSome = true
  · rw [if_pos h, if_pos h]
    exact rep_val k r hv
  · rw [if_neg h, if_neg h]
    refine ⟨ws ++ [v], ?_, ?_⟩
    · show _ = ((kvs ++ [(k, a)]).map fun kv => (KyC.ky kv.1 : Ky)).zip (ws ++ [v])
      rw [List.map_append, List.zip_append (by rw [r.len, List.length_map, List.length_map])]
      rfl
    · show Rep K S H (ws ++ [v]) ((kvs ++ [(k, a)]).map fun kv => enc kv.2) Emp
      rw [List.map_append]
      exact r.appE hv
theorem kl_of {kvs : List (κ × α)} {ws : List V} (r : Rep K S H ws (vsD kvs) Emp) (h : ∀ k ∈ ksD kvs, kOk k = true) : KL (ksD kvs) ws := ⟨by rw [r.len, List.length_map, List.length_map], h⟩
theorem ks_put {kvs : List (κ × α)} {k : κ} {a : α} {q : Ky} (h : q ∈ ksD (putKv kvs k a)) : q ∈ ksD kvs ∨ q = KyC.ky k := by
  unfold putKv at h
  split at h
  · left
    obtain ⟨p, hp, rfl⟩ := List.mem_map.mp h
    obtain ⟨p2, hp2, rfl⟩ := List.mem_map.mp hp
    refine List.mem_map.mpr ⟨p2, hp2, ?_⟩
    split <;> rfl
  · obtain ⟨p, hp, rfl⟩ := List.mem_map.mp h
    rcases List.mem_append.mp hp with e | e
    · exact .inl (List.mem_map.mpr ⟨p, e, rfl⟩)
    · right
      rw [List.mem_singleton] at e
      rw [e]
theorem SameN.dK {H H' : Hp} {p : Addr} {kvs : List (Key × V)} (s : SameN H H') (e : H p = some (.dK kvs)) : H' p = some (.dK kvs) := s.at_ _ _ (fun _ z => nomatch z) e
theorem DO.dK {kvs : List (Key × V)} : DO (.dK kvs) := ⟨fun _ z => (nomatch z), fun _ z => (nomatch z)⟩
end
section
variable {κ α : Type} [KyC κ] [Enc κ] [KyE κ] [DecidableEq κ] [Enc α] {X : Cx} {T R : Type} {l : Lay T} {n : Nat} {W : WX} {mr : Md} {er : R → D} {e o i value : Expr} {pos cpos apos pos' : Pos} {get : T → Option (Dct κ α)} {put : T → Option (Dct κ α) → T} {j : Nat} {S S' : Sh} {H H' : Hp} {P : FP} {σ : L2.St} {t : T} {d : Dct κ α}
theorem own_dat (k : Tak l j .ow (enc : Dct κ α → D) get put) (c : Cfg l.tabs S H P) (E : Env X.K S H σ l t P) (hg : get t = some d) (g : Grow l.tabs S H S' H') :
    ∃ p ws, σ[j]? = some (some (.ref p)) ∧ H p = some (.dK ((ksD d.kvs).zip ws)) ∧ H' p = some (.dK ((ksD d.kvs).zip ws)) ∧ P p ∧ KL (ksD d.kvs) ws ∧ Rep X.K S' H' ws (vsD d.kvs) Emp ∧
      ∀ ws' (d' : Dct κ α) S2 H2, Grow l.tabs S' H' S2 H2 → KL (ksD d'.kvs) ws' → Rep X.K S2 H2 ws' (vsD d'.kvs) Emp → Grw l.tabs S H P S2 (upd H2 p (.dK ((ksD d'.kvs).zip ws'))) P ∧ Env X.K S2 (upd H2 p (.dK ((ksD d'.kvs).zip ws'))) σ l (put t (some d')) P := by
  obtain ⟨v, P1, P2, hs, r, ⟨p, rfl, rfl⟩, E2, dj, rfl⟩ := k.tak E hg
  obtain ⟨ws, h, kl, r1⟩ := Rp.dicW r
  have c' := c.grow g
  refine ⟨p, ws, hs, h, g.h.dK h, .inl rfl, kl, r1.grow g, fun ws' d' S2 H2 g2 kl2 r2 => ?_⟩
  have gg := g.trans g2
  have c2 := c.grow gg
  have gu : Grw l.tabs S2 H2 _ S2 (upd H2 p (.dK ((ksD d'.kvs).zip ws'))) _ := Grw.upd c2 (.inl rfl) (gg.h.dK h) .dK
  have keep : ∀ x o, P2 x → NT o → H2 x = some o → upd H2 p (.dK ((ksD d'.kvs).zip ws')) x = some o := fun x o hx _ z => by
    rw [upd_ne (fun (e : x = p) => dj p rfl (by rw [← e]; exact hx))]
    exact z
  have E3 : Env X.K S2 (upd H2 p (.dK ((ksD d'.kvs).zip ws'))) σ l (put t none) P2 := (E2.grow gg).frame (SL.refl S2) rfl keep
  have r3 : Rp X.K S2 (upd H2 p (.dK ((ksD d'.kvs).zip ws'))) (.ref p) (enc d') (fun x => x = p) := (Rep.dic upd_same kl2 (Rep.frame r2 (SL.refl S2) fun _ _ z => z.elim) .nil (fun z => z) (fun z => z) fun _ z => z.elim).cast fun x => ⟨fun z => z.elim id fun z => z.elim False.elim False.elim, .inl⟩
  exact ⟨(gg.grw c).trans gu, k.bak E3 hs r3 ⟨p, rfl, rfl⟩ dj⟩
/-- d[k] = v, d a name's own dict -/
theorem ms_dput {fk : T → Res κ} {fv : T → Res α} (k : Tak l j .ow (enc : Dct κ α → D) get put) (hv : PE X o (tVar j)) (hk : PE X i (tME X.K l W (enc : κ → D) fk)) (he : PE X value (tME X.K l W (enc : α → D) fv)) (hu : X.A.units + 65 < cLine)
    (hs : swapsWith value (some (.Subscript o i pos')) pos.line X.env = pure false := by rfl) : MS X l n W mr er (.Assign [.Subscript o i pos'] value pos) (dputF get put fk fv) :=
  PS.imp (ps_dput (by omega) hv hk he hs) fun D σ H ⟨S, t, P, c, E, hl, q⟩ => by
    unfold dputF at q
    refine ⟨S, t, P, c, E, ?_⟩
    cases hf : fv t with
    | stuck => rw [hf] at q; exact q.elim
    | ex x => rw [hf] at q; exact ex_of c E hl q
    | ok a =>
      rw [hf] at q
      intro v S1 H1 g1 rv
      cases hg : get t with
      | none =>
        rw [hg] at q
        exact q.elim
      | some d =>
        rw [hg] at q
        obtain ⟨p, ws, hσ, hp, hp1, _, kl, r1, _⟩ := own_dat k c E hg g1
        refine ⟨_, hσ, S1, t, P, c.grow g1, E.grow g1, ?_⟩
        cases hf2 : fk t with
        | stuck => rw [hf2] at q; exact q.elim
        | ex x => rw [hf2] at q; exact exq_grow (ex_of c E hl q) g1
        | ok b =>
          rw [hf2] at q
          intro y S2 H2 g2 ry
          dsimp only at q
          by_cases hz : d.kvs.length < sizeLn
          · rw [if_pos hz] at q
            obtain ⟨p', ws', hσ', hp', hp2, _, kl2, r2, fin⟩ := own_dat k c E hg (g1.trans g2)
            rw [hσ] at hσ'
            cases hσ'
            obtain ⟨rfl, ok, _⟩ := KyE.val b ry
            obtain ⟨ws2, e2, r3⟩ := put_val b r2 (rv.grow g2)
            have kl3 : KL (ksD (d.put b a).kvs) ws2 := kl_of r3 fun q hq => (ks_put hq).elim (kl2.ok q) fun z => z ▸ ok
            obtain ⟨g3, E3⟩ := fin ws2 (d.put b a) S2 H2 (.refl g2.sub) kl3 r3
            refine ⟨p, _, rfl, .k hp2 ?_, q σ S2 _ P ?_ ?_ hl⟩
            · rw [List.length_zip, List.length_map, r2.len, List.length_map, Nat.min_self]
              exact hz
            · rw [e2]; exact g3
            · rw [e2]; exact E3
          · rw [if_neg hz] at q
            exact q.elim
/-- d.clear() -/
theorem ms_dclear (k : Tak l j .ow (enc : Dct κ α → D) get put) (hv : PE X o (tVar j)) (hbase : attributeBase o "clear" X.env (eval o X.env) = eval o X.env := by rfl) (hline : (apos.endLine == cpos.line) = true := by rfl)
    (hsw : swapsWith (.Call (.Attribute o "clear" apos) [] [] cpos) none pos.line X.env = pure false := by rfl) : MS X l n W mr er (.Expr (.Call (.Attribute o "clear" apos) [] [] cpos) pos) (dclearF get put) :=
  PS.imp (ps_expr (pe_dclear hv hbase hline) hsw) fun D σ H ⟨S, t, P, c, E, hl, q⟩ => by
    unfold dclearF at q
    cases hg : get t with
    | none =>
      rw [hg] at q
      exact q.elim
    | some d =>
      rw [hg] at q
      obtain ⟨p, ws, hσ, hp, hp1, _, kl, r1, fin⟩ := own_dat k c E hg (.refl c.sub)
      obtain ⟨g3, E3⟩ := fin [] ⟨[]⟩ S H (.refl c.sub) ⟨rfl, fun _ h => absurd h List.not_mem_nil⟩ .nil
      exact ⟨_, hσ, .inr (.inr (.inl ⟨rfl, .inl ⟨_, hp⟩⟩)), p, _, rfl, rfl, hp, q σ S _ P g3 E3 hl⟩
end
/-! reading -/
section
variable {κ α : Type} [KyC κ] [Enc κ] [KyE κ] [DecidableEq κ] [Enc α] {X : Cx} {T : Type} {l : Lay T} {W : WX} {e o i : Expr} {pos : Pos} {fd : T → Res (Dct κ α)} {fk : T → Res κ}
theorem dget_rd {H : Hp} {a : Addr} {kvs : List (Key × V)} {k : Key} (e : Rd H a (.dK kvs)) : DGet H a (kV k) (valV kvs k) := .inl ⟨kvs, k, e, rfl, rfl⟩
theorem dget_at {K : PySem.W.Frag} {τ : TL} {S : Sh} {H : Hp} {x y : V} {d : Dct κ α} {k : κ} {P1 P2 : FP} (sub : Sub τ S H) (rx : Rp K S H x (enc d) P1) (f : Fl x P1) (ry : Rp K S H y (enc k) P2) : ∃ a, x = .ref a ∧
    match d.get k with
    | none => DGet H a y none
    | some b => ∃ v, DGet H a y (some v) ∧ Rp K S H v (enc b) Emp := by
  obtain ⟨p, ws, rfl, h, kl, r⟩ := Rp.dicF sub rx f
  obtain ⟨rfl, _, _⟩ := KyE.val k ry
  refine ⟨p, rfl, ?_⟩
  have q := val_get k r
  unfold Dct.get
  revert q
  cases getK d.kvs k with
  | none => intro q; exact (show valV ((ksD d.kvs).zip ws) (KyC.ky k) = none from q) ▸ dget_rd h
  | some b => intro q; obtain ⟨v, q, r⟩ := q; exact ⟨v, q ▸ dget_rd h, r⟩
theorem me_dget (hu : X.A.units + 65 < cLine) (ho : PE X o (tMB X.K l W (enc : Dct κ α → D) fd)) (hi : PE X i (tMB X.K l W (enc : κ → D) fk)) (hs : NoSl i := by intro _ _; rfl) : PE X (.Subscript o i pos) (tME X.K l W (enc : α → D) (op2 dgetF fd fk)) :=
  PE.imp (pe_dget (by omega) ho hi hs) fun σ H Q ⟨S, t, P, c, E, q⟩ => ⟨S, t, P, c, E, q.bind.imp (fun d q x S1 H1 P1 g1 r1 f1 k1 => ⟨S1, t, P, c.grow g1, E.grow g1, q.bind.imp (fun k q y S2 H2 P2 g2 r2 f2 k2 => by
    obtain ⟨a, rfl, h⟩ := dget_at g2.sub (r1.grow g2) f1 r2
    obtain ⟨b, e, q⟩ := q.ofO
    rw [e] at h
    obtain ⟨v, h, r⟩ := h
    exact ⟨a, v, rfl, h, q v S2 H2 (g1.trans g2) r⟩) fun _ z => exq_grow z g1⟩) fun _ z => z⟩
theorem din_q (neg : Bool) (σ : L2.St) (H : Hp) (Q : VK) : tME X.K l W eB (op2 (fun (k : κ) (d : Dct κ α) => .ok ((d.get k).isSome != neg)) fk fd) σ H Q → tMB X.K l W (enc : κ → D) fk σ H fun y H1 => tMB X.K l W (enc : Dct κ α → D) fd σ H1 fun x H2 => ∃ a o, x = .ref a ∧ DGet H2 a y o ∧ Q (.bl (o.isSome != neg)) H2 := fun ⟨S, t, P, c, E, q⟩ =>
  ⟨S, t, P, c, E, q.bind.imp (fun k q y S1 H1 P1 g1 r1 f1 k1 => ⟨S1, t, P, c.grow g1, E.grow g1, q.bind.imp (fun d q x S2 H2 P2 g2 r2 f2 k2 => by
    obtain ⟨a, rfl, h⟩ := dget_at g2.sub r2 f2 (r1.grow g2)
    have q : ∀ v S' H', Grow l.tabs S H S' H' → Rp X.K S' H' v (.bl ((d.get k).isSome != neg)) Emp → Q v H' := q
    revert h q
    cases d.get k with
    | none => intro h q; exact ⟨a, none, rfl, h, q _ S2 H2 (g1.trans g2) (Rep.bl _ .nil)⟩
    | some b => intro h q; obtain ⟨v, h, _⟩ := h; exact ⟨a, some v, rfl, h, q _ S2 H2 (g1.trans g2) (Rep.bl _ .nil)⟩) fun _ z => exq_grow z g1⟩) fun _ z => z⟩
theorem pc_dinM (hu : X.A.units + 65 < cLine) (hi : PE X i (tMB X.K l W (enc : κ → D) fk)) (ho : PE X o (tMB X.K l W (enc : Dct κ α → D) fd)) : PC X .In i o (tME X.K l W eB (op2 dinF fk fd)) :=
  ⟨fun pins s σ H Q I z => (pc_din (by omega) hi ho).run pins s σ H Q I (by
    have e : (dinF : κ → Dct κ α → Res Bool) = fun k d => .ok ((d.get k).isSome != false) := funext fun k => funext fun d => by unfold dinF; rw [Bool.bne_false]
    rw [e] at z
    have z := din_q false σ H Q z
    simp only [Bool.bne_false] at z
    exact z)⟩
theorem pc_dninM (hu : X.A.units + 65 < cLine) (hi : PE X i (tMB X.K l W (enc : κ → D) fk)) (ho : PE X o (tMB X.K l W (enc : Dct κ α → D) fd)) : PC X .NotIn i o (tME X.K l W eB (op2 dninF fk fd)) :=
  ⟨fun pins s σ H Q I z => (pc_dnotin (by omega) hi ho).run pins s σ H Q I (by
    have e : (dninF : κ → Dct κ α → Res Bool) = fun k d => .ok ((d.get k).isSome != true) := funext fun k => funext fun d => by unfold dninF; rw [Bool.bne_true]
    rw [e] at z
    have z := din_q true σ H Q z
    simp only [Bool.bne_true] at z
    exact z)⟩
theorem me_din (hu : X.A.units + 65 < cLine) (hi : PE X i (tMB X.K l W (enc : κ → D) fk)) (ho : PE X o (tMB X.K l W (enc : Dct κ α → D) fd)) (hm : behindInMarks .In o = false := by rfl) : PE X (.Compare i [.In] [o] pos) (tME X.K l W eB (op2 dinF fk fd)) := pe_cmp (pc_dinM hu hi ho) hm
theorem me_dnin (hu : X.A.units + 65 < cLine) (hi : PE X i (tMB X.K l W (enc : κ → D) fk)) (ho : PE X o (tMB X.K l W (enc : Dct κ α → D) fd)) (hm : behindInMarks .NotIn o = false := by rfl) : PE X (.Compare i [.NotIn] [o] pos) (tME X.K l W eB (op2 dninF fk fd)) := pe_cmp (pc_dninM hu hi ho) hm
theorem mt_din (hu : X.A.units + 65 < cLine) (hi : PE X i (tMB X.K l W (enc : κ → D) fk)) (ho : PE X o (tMB X.K l W (enc : Dct κ α → D) fd)) (hm : behindInMarks .In o = false := by rfl) : PT X (.Compare i [.In] [o] pos) (tMT X.K l W (op2 dinF fk fd)) := PT.imp (pt_cmp (pc_dinM hu hi ho) hm) fun σ H Q z => mt_of σ H Q z
theorem mt_dnin (hu : X.A.units + 65 < cLine) (hi : PE X i (tMB X.K l W (enc : κ → D) fk)) (ho : PE X o (tMB X.K l W (enc : Dct κ α → D) fd)) (hm : behindInMarks .NotIn o = false := by rfl) : PT X (.Compare i [.NotIn] [o] pos) (tMT X.K l W (op2 dninF fk fd)) := PT.imp (pt_cmp (pc_dninM hu hi ho) hm) fun σ H Q z => mt_of σ H Q z
theorem own_dic {τ : TL} {K : PySem.W.Frag} {S : Sh} {H : Hp} {p : Addr} {kvs : List (κ × α)} {ws : List V} (sub : Sub τ S H) (hp : H p = none) (kl : KL (ksD kvs) ws) (r : Rep K S H ws (vsD kvs) Emp) : Grow τ S H S (upd H p (.dK ((ksD kvs).zip ws))) ∧ Rp K S (upd H p (.dK ((ksD kvs).zip ws))) (.ref p) (enc (⟨kvs⟩ : Dct κ α)) (fun x => x = p) ∧ Md.ow.ok (.ref p) (fun x => x = p) ∧ ∀ x, x = p → H x = none ∧ S x = none := by
  have g : Grow τ S H S (upd H p (.dK ((ksD kvs).zip ws))) := .own sub hp
  refine ⟨g, (Rep.dic upd_same kl (r.grow g) .nil (fun z => z) (fun z => z) fun _ z => z.elim).cast fun x => ⟨fun z => z.elim id fun z => z.elim False.elim False.elim, .inl⟩, ⟨p, rfl, rfl⟩, fun x e => e ▸ ⟨hp, sub.free hp⟩⟩
theorem mo_dnew : PE X (.Dict [] [] pos) (tMO X.K l W .ow (enc : Dct κ α → D) fun _ => .ok ⟨[]⟩) := PE.imp pe_dnewK fun σ H Q ⟨S, t, P, c, E, q⟩ p hp => by
  obtain ⟨g, r, o, n⟩ := own_dic (K := X.K) (κ := κ) (α := α) (kvs := []) (ws := []) c.sub hp ⟨rfl, fun _ h => absurd h List.not_mem_nil⟩ .nil
  exact (show ∀ v S' H' P1, Grow l.tabs S H S' H' → Rp X.K S' H' v (enc (⟨[]⟩ : Dct κ α)) P1 → Md.ow.ok v P1 → (∀ x, P1 x → H x = none ∧ S' x = none) → Q v H' from q) _ S _ _ g r o n
end
/-! calls -/
theorem rep_keys {κ : Type} [KyC κ] [Enc κ] [KyE κ] {α : Type} {K : PySem.W.Frag} {S : Sh} {H : Hp} : ∀ {kvs : List (κ × α)}, (∀ k ∈ ksD kvs, kOk k = true) → Rep K S H ((ksD kvs).map kV) ((kvs.map (·.1)).map enc) Emp
  | [], _ => .nil
  | p :: r, h => (KyE.rep p.1 (h _ (.head _))).joinE (rep_keys fun k hk => h k (.tail _ hk))
theorem ty_dic {K : PySem.W.Frag} {H : Hp} {a : Addr} {kvs : List (Key × V)} (h : Rd H a (.dK kvs)) : TyX K H (.ref a) (.type "dict") := h.elim (fun h => .base (.dK h)) fun ⟨_, h⟩ => .fDict h
instance {κ α : Type} [KyC κ] [Enc α] : TE' (Dct κ α) "dict" := ⟨fun a s r => by obtain ⟨p, ws, P1, rfl, h, _⟩ := Rp.dic s r; exact ty_dic h⟩
section
variable {κ α : Type} [KyC κ] [Enc κ] [KyE κ] [DecidableEq κ] [Enc α] {K : PySem.W.Frag}
theorem call_lenDk {X : Cx} : CallR X (.builtin "len") (fun xs H Q => ∃ (p : Addr) (kvs : List (Key × V)), xs = [.ref p] ∧ Rd H p (.dK kvs) ∧ Q (.int kvs.length) H) := by
  intro pins s σ H xs us Q I r h
  obtain ⟨p, kvs, rfl, e, q⟩ := h
  cases r with
  | cons a b =>
    cases b
    obtain rfl := (show _ = Value.ref p from a)
    exact d_len I e fun t s' I' => ⟨.int kvs.length, H, I', ⟨t, rfl⟩, q⟩
theorem o_lenD : OpN K (fun xs H Q => ∃ (p : Addr) (kvs : List (Key × V)), xs = [.ref p] ∧ Rd H p (.dK kvs) ∧ Q (.int kvs.length) H) (a1 (enc : Dct κ α → D)) eI (fun x => dlenF x.1) := ⟨fun {τ S H vs a P Q} s r q => by
  obtain ⟨v, P1, rfl, r, f⟩ := r.one
  obtain ⟨p, ws, rfl, h, kl, r⟩ := Rp.dicF s r f
  refine ⟨p, _, rfl, h, ?_⟩
  rw [show ((ksD a.1.kvs).zip ws).length = a.1.kvs.length by rw [List.length_zip, ← kl.len, Nat.min_self, List.length_map]]
  exact q _ S H (.refl s) (Rep.int _ .nil), fun _ => nx_ok⟩
theorem o_listDk : OpNO K (fun xs H Q => ∃ (a : Addr) (kvs : List (Key × V)), xs = [.ref a] ∧ Rd H a (.dK kvs) ∧ ∀ p, H p = none → Q (.ref p) (upd H p (.lst (kvs.map fun kv => kV kv.1)))) .ow (a1 (enc : Dct κ α → D)) (enc : List κ → D) (fun x => dkeysF x.1) := ⟨fun {τ S H vs a P Q} s r q => by
  obtain ⟨v, P1, rfl, r, f⟩ := r.one
  obtain ⟨p, ws, rfl, h, kl, r⟩ := Rp.dicF s r f
  refine ⟨p, _, rfl, h, fun d hd => ?_⟩
  have e : (((ksD a.1.kvs).zip ws).map fun kv => kV kv.1) = (ksD a.1.kvs).map kV := by
    rw [show (fun kv : Key × V => kV kv.1) = kV ∘ Prod.fst from rfl, ← List.map_map, List.map_fst_zip (by rw [kl.len]; exact Nat.le_refl _)]
  rw [e]
  obtain ⟨g3, r3, o3, n3⟩ := own_lst s hd (rep_keys (K := K) (S := S) (H := H) kl.ok)
  exact q _ S _ _ g3 r3 o3 n3, fun _ => nx_ok⟩
theorem o_dictDk : OpNO K (fun xs H Q => ∃ (a : Addr) (kvs : List (Key × V)), xs = [.ref a] ∧ Rd H a (.dK kvs) ∧ ∀ p, H p = none → Q (.ref p) (upd H p (.dK kvs))) .ow (a1 (enc : Dct κ α → D)) (enc : Dct κ α → D) (fun x => .ok x.1) := ⟨fun {τ S H vs a P Q} s r q => by
  obtain ⟨v, P1, rfl, r, f⟩ := r.one
  obtain ⟨p, ws, rfl, h, kl, r⟩ := Rp.dicF s r f
  refine ⟨p, _, rfl, h, fun d hd => ?_⟩
  obtain ⟨g3, r3, o3, n3⟩ := own_dic (K := K) (κ := κ) (α := α) s hd kl r
  exact q _ S _ _ g3 r3 o3 n3, fun _ => nx_ok⟩
end
end M

namespace M
open Enc (enc)
open PySem PySem.Spec PyProof.Rows L2 W
/-! ### any data -/
abbrev eD : D → D := Enc.enc
instance : FE D := ⟨fun d => nd_all [d]⟩
section
variable {X : Cx} {T α β γ : Type} {l : Lay T} {W : WX} {e e1 e2 : Expr} {pos : Pos}
theorem me_toD [Enc α] {f : T → Res α} (h : PE X e (tME X.K l W (Enc.enc : α → D) f)) : PE X e (tME X.K l W eD (op1 (fun a => .ok (enc a)) f)) := PE.imp h fun σ H Q ⟨S, t, P, c, E, q⟩ => ⟨S, t, P, c, E, q.bind⟩
theorem mb_toD [Enc α] {f : T → Res α} (h : PE X e (tMB X.K l W (Enc.enc : α → D) f)) : PE X e (tMB X.K l W eD (op1 (fun a => .ok (enc a)) f)) := PE.imp h fun σ H Q ⟨S, t, P, c, E, q⟩ => ⟨S, t, P, c, E, q.bind⟩
theorem mo_toD [Enc α] {m : Md} {f : T → Res α} (h : PE X e (tMO X.K l W m (Enc.enc : α → D) f)) : PE X e (tMO X.K l W m eD (op1 (fun a => .ok (enc a)) f)) := PE.imp h fun σ H Q ⟨S, t, P, c, E, q⟩ => ⟨S, t, P, c, E, q.bind⟩
theorem me_asT [Enc α] [Dec α] {f : T → Res D} (h : PE X e (tME X.K l W eD f)) : PE X e (tME X.K l W (Enc.enc : α → D) (op1 (asT α) f)) := PE.imp h fun σ H Q ⟨S, t, P, c, E, q⟩ => ⟨S, t, P, c, E, q.bind.imp (fun d q v S' H' g r => by
  obtain ⟨a, e, q⟩ := RQ.ofO q
  exact q v S' H' g (by rw [Dec.ok e]; exact r)) fun _ z => z⟩
theorem mb_asT [Enc α] [Dec α] {f : T → Res D} (h : PE X e (tMB X.K l W eD f)) : PE X e (tMB X.K l W (Enc.enc : α → D) (op1 (asT α) f)) := PE.imp h fun σ H Q ⟨S, t, P, c, E, q⟩ => ⟨S, t, P, c, E, q.bind.imp (fun d q v S' H' P1 g r => by
  obtain ⟨a, e, q⟩ := RQ.ofO q
  exact q v S' H' P1 g (by rw [Dec.ok e]; exact r)) fun _ z => z⟩
end
/-! == -/
mutual
theorem eqv_D : ∀ a b : D, ∀ n m, okD a n = true → okD b m = true → PyData.eqv (toPy a) (toPy b) = eqvD a b
  | .non, b, _, _, _, h => by cases b <;> first | rfl | cases h
  | .bl x, b, _, _, _, h => by cases b <;> first | rfl | cases h
  | .int x, b, _, _, _, h => by cases b <;> first | rfl | cases h
  | .str x, b, _, _, _, h => by cases b <;> first | rfl | cases h
  | .lst xs, b, n, m, k, h => by
    cases b <;> first | rfl | cases h | skip
    rename_i ys
    unfold okD at k h
    rw [Bool.and_eq_true] at k h
    exact eqv_Ds xs ys _ _ k.2 h.2
  | .tup xs, b, n, m, k, h => by
    cases b <;> first | rfl | cases h | skip
    rename_i ys
    unfold okD at k h
    rw [Bool.and_eq_true] at k h
    exact eqv_Ds xs ys _ _ k.2 h.2
  | .scr xs, b, n, m, k, h => by cases k
  | .dic _ _, _, _, _, k, _ => by cases k
  | .dit _ _, _, _, _, k, _ => by cases k
  | .hnd _, _, _, _, k, _ => by cases k
  | .adr _, _, _, _, k, _ => by cases k
  | .exo _ _ _, _, _, _, k, _ => by cases k
  | .gl _, _, _, _, k, _ => by cases k
  | .ty _, _, _, _, k, _ => by cases k
  | .obj _ _ _, _, _, _, k, _ => by cases k
theorem eqv_Ds : ∀ xs ys : List D, ∀ n m, okDs xs n = true → okDs ys m = true → PyData.eqvAll (toPys xs) (toPys ys) = eqvDs xs ys
  | [], [], _, _, _, _ => rfl
  | [], _ :: _, _, _, _, _ => rfl
  | _ :: _, [], _, _, _, _ => rfl
  | x :: xs, y :: ys, n, m, k, h => by
    unfold okDs at k h
    rw [Bool.and_eq_true] at k h
    show (PyData.eqv (toPy x) (toPy y) && PyData.eqvAll (toPys xs) (toPys ys)) = (eqvD x y && eqvDs xs ys)
    rw [eqv_D x y n m k.1 h.1, eqv_Ds xs ys n m k.2 h.2]
end
mutual
theorem pd_D : ∀ (d : D) (n : Nat), okD d n = true → PD n [d]
  | .non, _, _ => .non .nil
  | .bl _, _, _ => .bl .nil
  | .int _, _, _ => .int .nil
  | .str _, _, _ => .str .nil
  | .lst xs, n, k => by
    unfold okD at k
    rw [Bool.and_eq_true] at k
    have k1 := of_decide_eq_true k.1
    obtain ⟨m, rfl⟩ : ∃ m, n = m + 1 := ⟨n - 1, by omega⟩
    exact .lst (pd_Ds xs _ k.2) .nil
  | .tup xs, n, k => by
    unfold okD at k
    rw [Bool.and_eq_true] at k
    have k1 := of_decide_eq_true k.1
    obtain ⟨m, rfl⟩ : ∃ m, n = m + 1 := ⟨n - 1, by omega⟩
    exact .tup (pd_Ds xs _ k.2) .nil
  | .scr xs, n, k => by cases k
  | .dic _ _, _, k => by cases k
  | .dit _ _, _, k => by cases k
  | .hnd _, _, k => by cases k
  | .adr _, _, k => by cases k
  | .exo _ _ _, _, k => by cases k
  | .gl _, _, k => by cases k
  | .ty _, _, k => by cases k
  | .obj _ _ _, _, k => by cases k
theorem pd_Ds : ∀ (ds : List D) (n : Nat), okDs ds n = true → PD n ds
  | [], _, _ => .nil
  | d :: ds, n, k => by
    unfold okDs at k
    rw [Bool.and_eq_true] at k
    exact pd_join (pd_D d n k.1) (pd_Ds ds n k.2)
end
section
variable {K : PySem.W.Frag}
theorem ok2 {a b : Bool} (h : (a && b) = true) : a = true ∧ b = true := by rwa [Bool.and_eq_true] at h
theorem o_eqD : Op2 K (rEqD K) eD eD eB eqD := ⟨fun {τ S H x y a b P1 P2 Q} s rx ry _ _ q => by
  obtain ⟨hc, q⟩ := RQ.chk q
  obtain ⟨ha, hb⟩ := ok2 hc
  obtain ⟨h1, h2⟩ := Rp.dp s rx (pd_D a 30 ha) (by decide)
  obtain ⟨h3, h4⟩ := Rp.dp s ry (pd_D b 30 hb) (by decide)
  exact ⟨_, _, h1, h3, h2, h4, by rw [show PyData.eqv (toPy (eD a)) (toPy (eD b)) = _ from eqv_D a b 30 30 ha hb]; exact q _ S H (.refl s) (Rep.bl _ .nil)⟩, fun _ _ => nx_chk⟩
theorem o_neD : Op2 K (rNeD K) eD eD eB neD := ⟨fun {τ S H x y a b P1 P2 Q} s rx ry _ _ q => by
  obtain ⟨hc, q⟩ := RQ.chk q
  obtain ⟨ha, hb⟩ := ok2 hc
  obtain ⟨h1, h2⟩ := Rp.dp s rx (pd_D a 30 ha) (by decide)
  obtain ⟨h3, h4⟩ := Rp.dp s ry (pd_D b 30 hb) (by decide)
  exact ⟨_, _, h1, h3, h2, h4, by rw [show PyData.eqv (toPy (eD a)) (toPy (eD b)) = _ from eqv_D a b 30 30 ha hb]; exact q _ S H (.refl s) (Rep.bl _ .nil)⟩, fun _ _ => nx_chk⟩
theorem any_D {a : D} (ha : okD a 30 = true) : ∀ xs : List D, okDs xs 30 = true → ((toPys xs).any fun z => PyData.eqv z (toPy a)) = xs.any fun x => eqvD x a
  | [], _ => rfl
  | x :: xs, h => by
    unfold okDs at h
    rw [Bool.and_eq_true] at h
    simp only [toPys, List.any_cons, any_D ha xs h.2, eqv_D x a 30 30 h.1 ha]
theorem enc_Ds (xs : List D) : (Enc.enc xs : D) = .lst xs := congrArg D.lst (List.map_id xs)
theorem o_inD : Op2 K (rInD K) eD (Enc.enc : List D → D) eB inD := ⟨fun {τ S H x y a b P1 P2 Q} s rx ry _ _ q => by
  obtain ⟨hc, q⟩ := RQ.chk q
  obtain ⟨ha, hb⟩ := ok2 hc
  obtain ⟨h1, h2⟩ := Rp.dp s rx (pd_D a 30 ha) (by decide)
  rw [enc_Ds] at ry
  obtain ⟨h3, h4⟩ := Rp.dp s ry (n := 31) (.lst (pd_Ds b 30 hb) .nil) (by decide)
  refine ⟨_, _, h1, h3, h2, h4, ?_⟩
  rw [show ((toPys b).any fun z => PyData.eqv z (toPy (eD a))) = _ from any_D ha b hb]
  exact q _ S H (.refl s) (Rep.bl _ .nil), fun _ _ => nx_chk⟩
theorem o_ninD : Op2 K (rNotInD K) eD (Enc.enc : List D → D) eB ninD := ⟨fun {τ S H x y a b P1 P2 Q} s rx ry _ _ q => by
  obtain ⟨hc, q⟩ := RQ.chk q
  obtain ⟨ha, hb⟩ := ok2 hc
  obtain ⟨h1, h2⟩ := Rp.dp s rx (pd_D a 30 ha) (by decide)
  rw [enc_Ds] at ry
  obtain ⟨h3, h4⟩ := Rp.dp s ry (n := 31) (.lst (pd_Ds b 30 hb) .nil) (by decide)
  refine ⟨_, _, h1, h3, h2, h4, ?_⟩
  rw [show ((toPys b).any fun z => PyData.eqv z (toPy (eD a))) = _ from any_D ha b hb]
  exact q _ S H (.refl s) (Rep.bl _ .nil), fun _ _ => nx_chk⟩
/-! isinstance -/
theorem ty_tup {S : Sh} {H : Hp} {p : Addr} {ws : List V} (s : Same S H) (h : SqT K S p ws) : TyX K H (.ref p) (.type "tuple") := by
  rcases h with (h | ⟨o, h⟩) | ⟨o, its, n, h1, h2, _⟩
  · exact .base (.tup (s _ _ h))
  · exact .fTuple (s _ _ h)
  · exact .kTuple h1 h2
theorem ty_lst {S : Sh} {H : Hp} {p : Addr} {ws : List V} (s : Same S H) (h : SqL K S p ws) : TyX K H (.ref p) (.type "list") := by
  rcases h with (h | ⟨o, h⟩) | ⟨o, its, n, h1, h2, _⟩
  · exact .base (.lst (s _ _ h))
  · exact .base (.frz (s _ _ h))
  · exact .kList h1 h2
instance {α β : Type} [Enc α] [Enc β] : TE' (T2 α β) "tuple" := ⟨fun a s r => by obtain ⟨p, ws, rfl, h, _⟩ := Rp.tup r; exact ty_tup s h⟩
instance {α β γ : Type} [Enc α] [Enc β] [Enc γ] : TE' (T3 α β γ) "tuple" := ⟨fun a s r => by obtain ⟨p, ws, rfl, h, _⟩ := Rp.tup r; exact ty_tup s h⟩
instance {α β γ δ : Type} [Enc α] [Enc β] [Enc γ] [Enc δ] : TE' (T4 α β γ δ) "tuple" := ⟨fun a s r => by obtain ⟨p, ws, rfl, h, _⟩ := Rp.tup r; exact ty_tup s h⟩
instance : TE' Scr "list" := ⟨fun a s r => by obtain ⟨p, ws, rfl, h, _⟩ := Rp.scr r; exact ty_lst s h⟩
theorem Rp.dit {S : Sh} {H : Hp} {v : V} {P : FP} {ks : List (List Ky)} {es : List D} (s : Same S H) (r : Rp K S H v (.dit ks es) P) : ∃ p ws, v = .ref p ∧ H p = some (.dT (ks.zip ws)) := by
  cases r with
  | dit h => exact ⟨_, _, rfl, h⟩
  | sht h => exact ⟨_, _, rfl, s _ _ h⟩
theorem ty_D {S : Sh} {H : Hp} {v : V} {d : D} {P : FP} {t : String} (s : Same S H) (r : Rp K S H v d P) (h : tyD d = some t) : TyX K H v (.type t) := by
  cases d with
  | non => cases h; obtain ⟨rfl, _⟩ := Rp.non r; exact .base .non
  | bl b => cases h; obtain ⟨rfl, _⟩ := Rp.bl r; exact .base (.bl _)
  | int b => cases h; obtain ⟨rfl, _⟩ := Rp.int r; exact .base (.int _)
  | str b => cases h; obtain ⟨rfl, _⟩ := Rp.str r; exact .base (.str _)
  | lst b => cases h; obtain ⟨p, ws, P1, rfl, h, _⟩ := Rp.lst s r; exact .base (.lst h)
  | scr b => cases h; obtain ⟨p, ws, rfl, h, _⟩ := Rp.scr r; exact ty_lst s h
  | tup b => cases h; obtain ⟨p, ws, rfl, h, _⟩ := Rp.tup r; exact ty_tup s h
  | dic a b => cases h; obtain ⟨p, ws, P1, rfl, h, _⟩ := Rp.dic s r; exact ty_dic h
  | dit a b => cases h; obtain ⟨p, ws, rfl, h⟩ := Rp.dit s r; exact .base (.dT h)
  | _ => cases h
theorem kit_D {d : D} {t n : String} (h : tyD d = some t) (hn : n ∈ ["int", "bool", "str", "list", "tuple", "dict", "NoneType"]) : PySem.W.kitOne K (.type t) (.type n) = some (subTy t n) := by
  have ht : t ∈ ["int", "bool", "str", "list", "tuple", "dict", "NoneType"] := by cases d <;> cases h <;> decide
  refine kit_ty ?_
  simp only [List.mem_cons, List.not_mem_nil, or_false] at ht hn
  rcases ht with rfl | rfl | rfl | rfl | rfl | rfl | rfl <;> rcases hn with rfl | rfl | rfl | rfl | rfl | rfl | rfl <;> decide +kernel
theorem o_isiD {n : String} (hn : n ∈ ["int", "bool", "str", "list", "tuple", "dict", "NoneType"] := by decide) : OpN K (rIsi K) (a2 eD (Enc.enc : Cls0 n → D)) eB (fun x => isD n x.1) := ⟨fun {τ S H vs a P Q} s r q => by
  obtain ⟨v, w, P1, P2, rfl, r1, f, r2, f2⟩ := r.two
  obtain rfl := Rp.tyv r2
  obtain ⟨t, e, q⟩ := (RQ.bind q).ofO
  exact ⟨_, _, _, _, subTy t n, rfl, .ty n, ty_D s r1 e, kit_D e hn, q _ S H (.refl s) (Rep.bl _ .nil)⟩, fun a e h => by
  unfold isD at h
  cases z : tyD a.1 <;> rw [z] at h <;> cases h⟩
theorem no_D {S : Sh} {H : Hp} {x : V} {d : D} {u : Unit} {b : Bool} {P : FP} (r : Rp K S H x d P) (h : noD d u = .ok b) : decide (x = .non) = b := by
  cases d with
  | non => cases h; obtain ⟨rfl, _⟩ := Rp.non r; rfl
  | _ => first | (cases h; done) | (cases h; cases r <;> rfl)
theorem no_ok {d : D} {u : Unit} : (∃ b, noD d u = .ok b) ∨ noD d u = .stuck := by cases d <;> first | exact .inl ⟨_, rfl⟩ | exact .inr rfl
theorem o_isND : Op2 K (fun x y H Q => y = .non ∧ Q (.bl (decide (x = .non))) H) eD (Enc.enc : Unit → D) eB noD := ⟨fun {τ S H x y a b P1 P2 Q} s rx ry _ _ q => ⟨(Rp.non ry).1, by
  rcases no_ok (d := a) (u := b) with ⟨k, e⟩ | e
  · rw [e] at q
    rw [no_D rx e]
    exact q _ S H (.refl s) (Rep.bl _ .nil)
  · rw [e] at q
    exact q.elim⟩, fun a b e h => by rcases no_ok (d := a) (u := b) with ⟨k, z⟩ | z <;> rw [z] at h <;> cases h⟩
theorem o_notND : Op2 K (fun x y H Q => y = .non ∧ Q (.bl (!decide (x = .non))) H) eD (Enc.enc : Unit → D) eB nnoD := ⟨fun {τ S H x y a b P1 P2 Q} s rx ry _ _ q => ⟨(Rp.non ry).1, by
  unfold nnoD at q
  rcases no_ok (d := a) (u := b) with ⟨k, e⟩ | e
  · rw [e] at q
    rw [no_D rx e]
    exact q _ S H (.refl s) (Rep.bl _ .nil)
  · rw [e] at q
    exact q.elim⟩, fun a b e h => by
  unfold nnoD at h
  rcases no_ok (d := a) (u := b) with ⟨k, z⟩ | z <;> rw [z] at h <;> cases h⟩
end
end M

namespace M
open Enc (enc)
open PySem PySem.Spec PyProof.Rows L2 W
/-! ### what may write -/
section
variable {ω T α β γ : Type} {K : PySem.W.Frag} {S S' S1 : Sh} {H H' H1 : Hp} {σ : L2.St} {l : Lay T} {P P' P1 Q' Ps Pw : FP} {τ : TL}
theorem or_emp {P : FP} : (fun x => P x ∨ Emp x) = P := fp_eq fun x => ⟨fun z => z.elim id False.elim, .inl⟩
theorem emp_or {P : FP} : (fun x => Emp x ∨ P x) = P := fp_eq fun x => ⟨fun z => z.elim False.elim id, .inr⟩
theorem Grw.orE (g : Grw τ S H P S' H' (fun x => P' x ∨ Emp x)) : Grw τ S H P S' H' P' := by rwa [or_emp] at g
/-- what stands apart stays -/
theorem Grw.frameL (g : Grw τ S H Pw S' H' Q') (c : Cfg τ S H (fun x => Ps x ∨ Pw x)) (nt : ∀ x o, Ps x → H x = some o → NT o) (d : Disj Ps Pw) : Grw τ S H (fun x => Ps x ∨ Pw x) S' H' (fun x => Ps x ∨ Q' x) := by
  refine ⟨g.s, g.mu, ⟨g.cfg.sub, fun x hx => ?_, fun x hx => ?_⟩, fun x o n m e => g.keep x o (fun z => n (.inr z)) m e, fun x z => ?_, fun x o e => ?_, fun x e => ?_⟩
  · rcases hx with hx | hx
    · cases z : S' x with
      | none => rfl
      | some o =>
        rcases g.new x o z with ⟨u, e⟩ | e | e
        · rw [c.sep x (.inl hx)] at e; cases e
        · exact absurd e (d x hx)
        · obtain ⟨u, e2⟩ := c.inh x (.inl hx)
          rw [e] at e2; cases e2
    · exact g.cfg.sep x hx
  · rcases hx with hx | hx
    · obtain ⟨u, e2⟩ := c.inh x (.inl hx)
      exact ⟨u, g.keep x u (d x hx) (nt x u hx e2) e2⟩
    · exact g.cfg.inh x hx
  · rcases z with z | z
    · exact .inl (.inl z)
    · exact (g.fp x z).elim (fun y => .inl (.inr y)) .inr
  · rcases g.new x o e with z | z | z
    · exact .inl z
    · exact .inr (.inl (.inr z))
    · exact .inr (.inr z)
  · exact (g.free x e).elim (fun z => .inl (.inr z)) .inr
/-- the world within the state -/
structure Wl (l : Lay T) (ew : ω → D) (gw : T → List ω) (pw : T → List ω → T) : Prop where
  split : ∀ {K : PySem.W.Frag} {S : Sh} {H : Hp} {σ : L2.St} {t : T} {P : FP}, Env K S H σ l t P → ∃ Ps Pw, WOk K S H ew (gw t) Pw ∧ Disj Ps Pw ∧ (P = fun x => Ps x ∨ Pw x) ∧
    ∀ (S' : Sh) (H' : Hp) (w' : List ω) (Pw' : FP), SL S S' → (∀ x o, Ps x → NT o → H x = some o → H' x = some o) → WOk K S' H' ew w' Pw' → Disj Ps Pw' → Env K S' H' σ l (pw t w') (fun x => Ps x ∨ Pw' x)
  w : l.tabs.w = true
theorem Wl.z {τ : TL} {ew : ω → D} (h : τ.w = true := by rfl) : Wl (.wld τ ew) ew id (fun _ w => w) := ⟨fun {K S H σ t P} e => ⟨Emp, P, e, fun _ z => z.elim, emp_or.symm, fun S' H' w' Pw' _ _ q _ => by rw [emp_or]; exact q⟩, h⟩
theorem Wl.s {i : Nat} {m : Md} {en : α → D} {ew : ω → D} {gw : T → List ω} {pw : T → List ω → T} (q : Wl l ew gw pw) : Wl (.cons i m en l) ew (fun t => gw t.2) (fun t w => (t.1, pw t.2 w)) := ⟨fun {K S H σ t P} e => by
  obtain ⟨x, t⟩ := t
  cases x with
  | none => exact q.split (t := t) e
  | some b =>
    obtain ⟨v, P1, P2, h, r, o, e2, dj, rfl⟩ := e
    obtain ⟨Ps, Pw, hw, d2, rfl, k⟩ := q.split e2
    refine ⟨fun x => P1 x ∨ Ps x, Pw, hw, fun x z => z.elim (fun z y => dj x z (.inr y)) (d2 x), fp_eq fun x => ?_, fun S' H' w' Pw' s kp ok d3 => ?_⟩
    · exact ⟨fun z => z.elim (fun z => .inl (.inl z)) fun z => z.elim (fun z => .inl (.inr z)) .inr, fun z => z.elim (fun z => z.elim .inl fun z => .inr (.inl z)) fun z => .inr (.inr z)⟩
    · have e3 := k S' H' w' Pw' s (fun x o hx => kp x o (.inr hx)) ok fun x z => d3 x (.inr z)
      refine ⟨v, P1, _, h, r.frame s fun x o hx => kp x o (.inl hx), o, e3, fun x z y => y.elim (fun y => dj x z (.inl y)) (d3 x (.inl z)), fp_eq fun x => ?_⟩
      exact ⟨fun z => z.elim (fun z => z.elim .inl fun z => .inr (.inl z)) fun z => .inr (.inr z), fun z => z.elim (fun z => .inl (.inl z)) fun z => z.elim (fun z => .inl (.inr z)) .inr⟩, q.w⟩
end
section
variable {T α : Type} (K : PySem.W.Frag) (l : Lay T) (W : WX)
/-- an exception, the state behind -/
def XE (S : Sh) (H : Hp) (P : FP) (σ : L2.St) (e : Exn) (t : T) : Prop := ∀ cls d S' H' P', Grw l.tabs S H P S' H' P' → Env K S' H' σ l t P' → ExRel K e cls d S' → W cls d σ H'
def XV (m : Md) (en : α → D) (S : Sh) (H : Hp) (P : FP) (σ : L2.St) (Q : VK) : OutX T α → Prop
  | .ok a t => ∀ v S' H' P' P1, Grw l.tabs S H P S' H' (fun x => P' x ∨ P1 x) → Env K S' H' σ l t P' → Rp K S' H' v (en a) P1 → m.ok v P1 → Disj P' P1 → Q v H'
  | .ex e t => XE K l W S H P σ e t
  | .stuck => False
def XT (S : Sh) (H : Hp) (P : FP) (σ : L2.St) (Q : Bool → Hp → Prop) : OutX T Bool → Prop
  | .ok a t => ∀ S' H' P', Grw l.tabs S H P S' H' P' → Env K S' H' σ l t P' → Q a H'
  | .ex e t => XE K l W S H P σ e t
  | .stuck => False
def XA (en : α → List D) (S : Sh) (H : Hp) (P : FP) (σ : L2.St) (Q : List V → Hp → Prop) : OutX T α → Prop
  | .ok a t => ∀ vs S' H' P', Grw l.tabs S H P S' H' P' → Env K S' H' σ l t P' → Rep K S' H' vs (en a) Emp → Q vs H'
  | .ex e t => XE K l W S H P σ e t
  | .stuck => False
def tMX (m : Md) (en : α → D) (f : T → OutX T α) : TE := fun σ H Q => ∃ S t P, Cfg l.tabs S H P ∧ Env K S H σ l t P ∧ XV K l W m en S H P σ Q (f t)
def tMXT (f : T → OutX T Bool) : TT := fun σ H Q => ∃ S t P, Cfg l.tabs S H P ∧ Env K S H σ l t P ∧ XT K l W S H P σ Q (f t)
def tMXA (en : α → List D) (f : T → OutX T α) : TA := fun σ H Q => ∃ S t P, Cfg l.tabs S H P ∧ Env K S H σ l t P ∧ XA K l W en S H P σ Q (f t)
end
section
variable {X : Cx} {T α β γ δ : Type} {l : Lay T} {W : WX} {m : Md} {e e1 e2 : Expr} {es : List Expr} {ea : α → D} {eb : β → D} {ec : γ → D} {S S' : Sh} {H H' : Hp} {P P' : FP} {σ : L2.St} {pos : Pos}
theorem XE.trans {x : Exn} {t : T} (q : XE X.K l W S H P σ x t) (g : Grw l.tabs S H P S' H' P') : XE X.K l W S' H' P' σ x t := fun cls d S2 H2 P2 g2 => q cls d S2 H2 P2 (g.trans g2)
theorem XV.trans {Q : VK} {o : OutX T α} (q : XV X.K l W m ea S H P σ Q o) (g : Grw l.tabs S H P S' H' P') : XV X.K l W m ea S' H' P' σ Q o := by
  cases o with
  | ok a t => exact fun v S2 H2 P2 P3 g2 => q v S2 H2 P2 P3 (g.trans g2)
  | ex e t => exact XE.trans q g
  | stuck => exact q
theorem XT.trans {Q : Bool → Hp → Prop} {o : OutX T Bool} (q : XT X.K l W S H P σ Q o) (g : Grw l.tabs S H P S' H' P') : XT X.K l W S' H' P' σ Q o := by
  cases o with
  | ok a t => exact fun S2 H2 P2 g2 => q S2 H2 P2 (g.trans g2)
  | ex e t => exact XE.trans q g
  | stuck => exact q
theorem XA.trans {en : α → List D} {Q : List V → Hp → Prop} {o : OutX T α} (q : XA X.K l W en S H P σ Q o) (g : Grw l.tabs S H P S' H' P') : XA X.K l W en S' H' P' σ Q o := by
  cases o with
  | ok a t => exact fun v S2 H2 P2 g2 => q v S2 H2 P2 (g.trans g2)
  | ex e t => exact XE.trans q g
  | stuck => exact q
/-- a plain answer -/
theorem XV.res {Q : VK} {r : Res α} {t : T} (c : Cfg l.tabs S H P) (E : Env X.K S H σ l t P) (q : XV X.K l W .sh ea S H P σ Q (liftR r t)) : RQ r (fun a => ∀ v S' H', Grow l.tabs S H S' H' → Rp X.K S' H' v (ea a) Emp → Q v H') (ExQ X.K l.tabs W S H σ) := by
  cases r with
  | ok a => exact fun v S' H' g r => q v S' H' P Emp ((g.grw c).less fun x z => z.elim id False.elim) (E.grow g) r rfl fun _ _ z => z
  | ex e => exact fun S' H' cls d g r => q cls d S' H' P (g.grw c) (E.grow g) r
  | stuck => exact q
theorem XT.res {Q : Bool → Hp → Prop} {r : Res Bool} {t : T} (c : Cfg l.tabs S H P) (E : Env X.K S H σ l t P) (q : XT X.K l W S H P σ Q (liftR r t)) : RQ r (fun a => ∀ S' H', Grow l.tabs S H S' H' → Q a H') (ExQ X.K l.tabs W S H σ) := by
  cases r with
  | ok a => exact fun S' H' g => q S' H' P (g.grw c) (E.grow g)
  | ex e => exact fun S' H' cls d g r => q cls d S' H' P (g.grw c) (E.grow g) r
  | stuck => exact q
theorem mx_of {f : T → Res α} (h : PE X e (tME X.K l W ea f)) : PE X e (tMX X.K l W .sh ea (liftX f)) := PE.imp h fun σ H Q ⟨S, t, P, c, E, q⟩ => ⟨S, t, P, c, E, XV.res c E q⟩
theorem mx_ofO {f : T → Res α} (h : PE X e (tMO X.K l W m ea f)) : PE X e (tMX X.K l W m ea (liftX f)) := PE.imp h fun σ H Q ⟨S, t, P, c, E, q⟩ => ⟨S, t, P, c, E, by
  unfold liftX at q
  cases hf : f t with
  | ok a =>
    rw [hf] at q
    refine fun v S' H' P1 g r o nw => q v S' H' P P1 ?_ (E.grow g) r o fun x z y => ?_
    · exact ⟨g.s, fun _ => g.mu, ⟨g.sub, fun x z => z.elim ((c.grow g).sep x) fun z => (nw x z).2, fun x z => z.elim ((c.grow g).inh x) (r.inH x)⟩, fun x o _ n z => g.h.at_ x o n z, fun x z => z.elim .inl fun z => .inr (nw x z).1, fun x o z => (g.new x o z).elim .inl fun z => .inr (.inr z), fun _ e => .inr (g.h.free e)⟩
    · obtain ⟨o, h⟩ := c.inh x z
      rw [(nw x y).1] at h
      cases h
  | ex e => rw [hf] at q; exact fun S' H' cls d g r => q cls d S' H' P (g.grw c) (E.grow g) r
  | stuck => rw [hf] at q; exact q⟩
/-- what is new is shared -/
theorem mx_sh {f : T → OutX T α} (h : PE X e (tMX X.K l W m ea f)) : PE X e (tMX X.K l W .sh ea f) := PE.imp h fun σ H Q ⟨S, t, P, c, E, q⟩ => ⟨S, t, P, c, E, by
  cases hf : f t with
  | ok a t' =>
    rw [hf] at q
    intro v S' H' P' P1 g E' r o d
    have sub := g.cfg.sub
    refine q v (frz S' H' P1) H' P' Emp ?_ (E'.frame (frz_same sub) rfl fun _ _ _ _ z => z) (Rep.freeze sub r (nd_all _) (frz_same sub) (frz_sub0 sub) fun x o hx z => by rw [frz_in hx]; exact z) rfl fun _ _ z => z
    refine ⟨g.s.trans (frz_same sub), g.mu, ⟨frz_sub sub r.ntH, fun x z => ?_, fun x z => ?_⟩, g.keep, fun x z => z.elim (fun z => g.fp x (.inl z)) False.elim, fun x o z => ?_, g.free⟩
    · rcases z with z | z
      · rw [frz_out (d x z)]; exact g.cfg.sep x (.inl z)
      · exact z.elim
    · exact z.elim (fun z => g.cfg.inh x (.inl z)) False.elim
    · by_cases hx : P1 x
      · exact .inr (g.fp x (.inr hx))
      · rw [frz_out hx] at z; exact g.new x o z
  | ex e t' => rw [hf] at q; exact q
  | stuck => rw [hf] at q; exact q⟩
/-! operators -/
theorem mx_two {f : T → OutX T α} {g : T → OutX T β} {h : α → β → Res γ} {R : R2} (o : Op2 X.K R ea eb ec h) (σ : L2.St) (H : Hp) (Q : VK) : tMX X.K l W .sh ec (xop2 h f g) σ H Q → tOp R (tMX X.K l W .sh ea f) (tMX X.K l W .sh eb g) σ H Q := fun ⟨S, t, P, c, E, q⟩ => ⟨S, t, P, c, E, by
  unfold xop2 OutX.bind at q
  cases hf : f t with
  | ok a t1 =>
    rw [hf] at q
    intro v S1 H1 P1 Pv g1 E1 r1 o1 d1
    have o1 : Pv = Emp := o1
    subst o1
    have g1 := g1.orE
    refine ⟨S1, t1, P1, g1.cfg, E1, ?_⟩
    dsimp only at q
    cases hg : g t1 with
    | ok b t2 =>
      rw [hg] at q
      intro w S2 H2 P2 Pw g2 E2 r2 o2 d2
      have o2 : Pw = Emp := o2
      subst o2
      have g2 := g2.orE
      refine o.run g2.cfg.sub (r1.frame g2.s fun _ _ z => z.elim) r2 (.inl rfl) (.inl rfl) ?_
      exact RQ.nox (XV.res g2.cfg E2 (XV.trans (XV.trans q g1) g2)) (o.nox a b)
    | ex e t2 => rw [hg] at q; exact XE.trans q g1
    | stuck => rw [hg] at q; exact q
  | ex e t1 => rw [hf] at q; exact q
  | stuck => rw [hf] at q; exact q⟩
theorem mx_one {f : T → OutX T α} {h : α → Res β} {R : V → Hp → VK → Prop} (o : Op1 X.K R ea eb h) (σ : L2.St) (H : Hp) (Q : VK) : tMX X.K l W .sh eb (xop1 h f) σ H Q → tUn R (tMX X.K l W .sh ea f) σ H Q := fun ⟨S, t, P, c, E, q⟩ => ⟨S, t, P, c, E, by
  unfold xop1 OutX.bind at q
  cases hf : f t with
  | ok a t1 =>
    rw [hf] at q
    intro v S1 H1 P1 Pv g1 E1 r1 o1 d1
    have o1 : Pv = Emp := o1
    subst o1
    have g1 := g1.orE
    exact o.run g1.cfg.sub r1 (.inl rfl) (RQ.nox (XV.res g1.cfg E1 (XV.trans q g1)) (o.nox a))
  | ex e t1 => rw [hf] at q; exact q
  | stuck => rw [hf] at q; exact q⟩
section
variable {f : T → OutX T α} {g : T → OutX T β}
theorem mx_op {op : Operator} {R : R2} {h : α → β → Res γ} (ho : OpR X (binaryOp op) R) (o : Op2 X.K R ea eb ec h) (ha : PE X e1 (tMX X.K l W .sh ea f)) (hb : PE X e2 (tMX X.K l W .sh eb g)) : PE X (.BinOp e1 op e2 pos) (tMX X.K l W .sh ec (xop2 h f g)) := PE.imp (pe_op ho ha hb) (mx_two o)
theorem mx_cmp {op : CmpOp} {R : R2} {h : α → β → Res Bool} (ho : OpR X (compareOp op) R) (o : Op2 X.K R ea eb Enc.enc h) (hm : behindInMarks op e2 = false) (ha : PE X e1 (tMX X.K l W .sh ea f)) (hb : PE X e2 (tMX X.K l W .sh eb g)) : PE X (.Compare e1 [op] [e2] pos) (tMX X.K l W .sh Enc.enc (xop2 h f g)) := PE.imp (pe_cmpR ho ha hb hm) (mx_two o)
theorem mx_un {op : UnaryOp} {R : V → Hp → VK → Prop} {h : α → Res β} (ho : UnR X (unaryOp op) R) (o : Op1 X.K R ea eb h) (ha : PE X e1 (tMX X.K l W .sh ea f)) : PE X (.UnaryOp op e1 pos) (tMX X.K l W .sh eb (xop1 h f)) := PE.imp (pe_un ho ha) (mx_one o)
theorem mx_ix {R : R2} {h : α → β → Res γ} (ho : IxR X R) (o : Op2 X.K R ea eb ec h) (ha : PE X e1 (tMX X.K l W .sh ea f)) (hb : PE X e2 (tMX X.K l W .sh eb g)) (hs : PlainIx e2 := by intro _ _; rfl) : PE X (.Subscript e1 e2 pos) (tMX X.K l W .sh ec (xop2 h f g)) := PE.imp (pe_ix ho ha hb hs) (mx_two o)
/-! tests -/
theorem xt_of {c : T → OutX T Bool} (σ : L2.St) (H : Hp) (Q : Bool → Hp → Prop) : tMXT X.K l W c σ H Q → tMX X.K l W .sh (Enc.enc : Bool → D) c σ H fun x H1 => ∃ k, x = .bl k ∧ Q k H1 := fun ⟨S, t, P, cf, E, q⟩ => ⟨S, t, P, cf, E, by
  cases hf : c t with
  | ok a t1 =>
    rw [hf] at q
    intro v S1 H1 P1 Pv g1 E1 r1 o1 d1
    have o1 : Pv = Emp := o1
    subst o1
    exact ⟨a, (Rp.bl r1).1, q S1 H1 P1 g1.orE E1⟩
  | ex e t1 => rw [hf] at q; exact q
  | stuck => rw [hf] at q; exact q⟩
theorem xt_val {c : T → OutX T Bool} (h : PE X e (tMX X.K l W .sh Enc.enc c)) (he : ∀ whole, isTrue e X.env whole = (do let v ← whole; standAt e.pos; holding [v] (truthy v)) := by intro _; rfl) : PT X e (tMXT X.K l W c) := PT.imp (pt_val h he) fun σ H Q z => xt_of σ H Q z
theorem xt_mt {c : T → Res Bool} (h : PT X e (tMT X.K l W c)) : PT X e (tMXT X.K l W (liftX c)) := PT.imp h fun σ H Q ⟨S, t, P, cf, E, q⟩ => ⟨S, t, P, cf, E, XT.res cf E q⟩
theorem xt_cmp {op : CmpOp} {R : R2} {h : α → β → Res Bool} (ho : OpR X (compareOp op) R) (o : Op2 X.K R ea eb Enc.enc h) (hm : behindInMarks op e2 = false) (ha : PE X e1 (tMX X.K l W .sh ea f)) (hb : PE X e2 (tMX X.K l W .sh eb g)) : PT X (.Compare e1 [op] [e2] pos) (tMXT X.K l W (xop2 h f g)) :=
  PT.imp (pt_cmpR ho ha hb hm) fun σ H Q z => mx_two o σ H _ (xt_of σ H Q z)
end
theorem xt_not {c : T → OutX T Bool} (h : PT X e (tMXT X.K l W c)) : PT X (.UnaryOp .Not e pos) (tMXT X.K l W (xnot c)) := PT.imp (pt_not h) fun σ H Q ⟨S, t, P, cf, E, q⟩ => ⟨S, t, P, cf, E, by
  unfold xnot OutX.bind at q
  cases hf : c t with
  | ok a t1 => rw [hf] at q; exact q
  | ex e t1 => rw [hf] at q; exact q
  | stuck => rw [hf] at q; exact q⟩
theorem xw_and {c d : T → OutX T Bool} {rest : List Expr} (ha : PT X e1 (tMXT X.K l W c)) (hb : PW X (.BoolOp .And (e2 :: rest) pos) (tMXT X.K l W d)) : PW X (.BoolOp .And (e1 :: e2 :: rest) pos) (tMXT X.K l W (xand c d)) := PW.imp (pw_and ha hb) fun σ H Q ⟨S, t, P, cf, E, q⟩ => ⟨S, t, P, cf, E, by
  unfold xand OutX.bind at q
  cases hf : c t with
  | ok a t1 =>
    rw [hf] at q
    intro S1 H1 P1 g1 E1
    cases a with
    | true => rw [if_pos rfl]; exact ⟨S1, t1, P1, g1.cfg, E1, XT.trans (by simpa using q) g1⟩
    | false => rw [if_neg (by decide)]; exact (show XT X.K l W S H P σ Q (.ok false t1) from by simpa using q) S1 H1 P1 g1 E1
  | ex e t1 => rw [hf] at q; exact q
  | stuck => rw [hf] at q; exact q⟩
theorem xw_or {c d : T → OutX T Bool} {rest : List Expr} (ha : PT X e1 (tMXT X.K l W c)) (hb : PW X (.BoolOp .Or (e2 :: rest) pos) (tMXT X.K l W d)) : PW X (.BoolOp .Or (e1 :: e2 :: rest) pos) (tMXT X.K l W (xor_ c d)) := PW.imp (pw_or ha hb) fun σ H Q ⟨S, t, P, cf, E, q⟩ => ⟨S, t, P, cf, E, by
  unfold xor_ OutX.bind at q
  cases hf : c t with
  | ok a t1 =>
    rw [hf] at q
    intro S1 H1 P1 g1 E1
    cases a with
    | false => rw [if_neg (by decide)]; exact ⟨S1, t1, P1, g1.cfg, E1, XT.trans (by simpa using q) g1⟩
    | true => rw [if_pos rfl]; exact (show XT X.K l W S H P σ Q (.ok true t1) from by simpa using q) S1 H1 P1 g1 E1
  | ex e t1 => rw [hf] at q; exact q
  | stuck => rw [hf] at q; exact q⟩
/-- as values -/
theorem mx_and {c d : T → OutX T Bool} {rest : List Expr} (ha : PE X e1 (tMX X.K l W .sh Enc.enc c)) (hb : PE X (.BoolOp .And (e2 :: rest) pos) (tMX X.K l W .sh Enc.enc d)) : PE X (.BoolOp .And (e1 :: e2 :: rest) pos) (tMX X.K l W .sh Enc.enc (xand c d)) := PE.imp (pe_and ha hb) fun σ H Q ⟨S, t, P, cf, E, q⟩ => ⟨S, t, P, cf, E, by
  unfold xand OutX.bind at q
  cases hf : c t with
  | ok a t1 =>
    rw [hf] at q
    intro v S1 H1 P1 Pv g1 E1 r1 o1 d1
    have o1 : Pv = Emp := o1
    subst o1
    have g1 := g1.orE
    refine ⟨a, (Rp.bl r1).1, ?_⟩
    cases a with
    | true => rw [if_pos rfl]; exact ⟨S1, t1, P1, g1.cfg, E1, XV.trans (by simpa using q) g1⟩
    | false => rw [if_neg (by decide)]; exact (show XV X.K l W .sh (Enc.enc : Bool → D) S H P σ Q (.ok false t1) from by simpa using q) _ S1 H1 P1 Emp (by rw [or_emp]; exact g1) E1 (Rep.bl false .nil) rfl fun _ _ z => z
  | ex e t1 => rw [hf] at q; exact q
  | stuck => rw [hf] at q; exact q⟩
theorem mx_or {c d : T → OutX T Bool} {rest : List Expr} (ha : PE X e1 (tMX X.K l W .sh Enc.enc c)) (hb : PE X (.BoolOp .Or (e2 :: rest) pos) (tMX X.K l W .sh Enc.enc d)) : PE X (.BoolOp .Or (e1 :: e2 :: rest) pos) (tMX X.K l W .sh Enc.enc (xor_ c d)) := PE.imp (pe_or ha hb) fun σ H Q ⟨S, t, P, cf, E, q⟩ => ⟨S, t, P, cf, E, by
  unfold xor_ OutX.bind at q
  cases hf : c t with
  | ok a t1 =>
    rw [hf] at q
    intro v S1 H1 P1 Pv g1 E1 r1 o1 d1
    have o1 : Pv = Emp := o1
    subst o1
    have g1 := g1.orE
    refine ⟨a, (Rp.bl r1).1, ?_⟩
    cases a with
    | false => rw [if_neg (by decide)]; exact ⟨S1, t1, P1, g1.cfg, E1, XV.trans (by simpa using q) g1⟩
    | true => rw [if_pos rfl]; exact (show XV X.K l W .sh (Enc.enc : Bool → D) S H P σ Q (.ok true t1) from by simpa using q) _ S1 H1 P1 Emp (by rw [or_emp]; exact g1) E1 (Rep.bl true .nil) rfl fun _ _ z => z
  | ex e t1 => rw [hf] at q; exact q
  | stuck => rw [hf] at q; exact q⟩
theorem mx_not {c : T → OutX T Bool} (h : PE X e (tMX X.K l W .sh Enc.enc c)) : PE X (.UnaryOp .Not e pos) (tMX X.K l W .sh Enc.enc (xnot c)) := PE.imp (pe_not h) fun σ H Q ⟨S, t, P, cf, E, q⟩ => ⟨S, t, P, cf, E, by
  unfold xnot OutX.bind at q
  cases hf : c t with
  | ok a t1 =>
    rw [hf] at q
    intro v S1 H1 P1 Pv g1 E1 r1 o1 d1
    exact ⟨a, (Rp.bl r1).1, (show XV X.K l W .sh (Enc.enc : Bool → D) S H P σ Q (.ok (!a) t1) from q) _ S1 H1 P1 Emp (by
      have o1 : Pv = Emp := o1
      subst o1
      exact g1) E1 (Rep.bl _ .nil) rfl fun _ _ z => z⟩
  | ex e t1 => rw [hf] at q; exact q
  | stuck => rw [hf] at q; exact q⟩
theorem mx_if {c : Expr} {d : T → OutX T Bool} {f f2 : T → OutX T α} (hc : PT X c (tMXT X.K l W d)) (ha : PE X e1 (tMX X.K l W m ea f)) (hb : PE X e2 (tMX X.K l W m ea f2)) : PE X (.IfExp c e1 e2 pos) (tMX X.K l W m ea (xite d f f2)) := PE.imp (pe_ifExp hc ha hb) fun σ H Q ⟨S, t, P, cf, E, q⟩ => ⟨S, t, P, cf, E, by
  unfold xite OutX.bind at q
  cases hf : d t with
  | ok a t1 =>
    rw [hf] at q
    intro S1 H1 P1 g1 E1
    cases a with
    | true => rw [if_pos rfl]; exact ⟨S1, t1, P1, g1.cfg, E1, XV.trans (by simpa using q) g1⟩
    | false => rw [if_neg (by decide)]; exact ⟨S1, t1, P1, g1.cfg, E1, XV.trans (by simpa using q) g1⟩
  | ex e t1 => rw [hf] at q; exact q
  | stuck => rw [hf] at q; exact q⟩
/-! arguments, displays, built-ins -/
theorem mxa_nil : PA X [] (tMXA X.K l W nilD fun t => .ok () t) := ⟨fun pos pins s σ H Q I ⟨S, t, P, c, E, q⟩ => (pa_nil).run pos pins s σ H Q I (q [] S H P (.refl c) E .nil)⟩
theorem mxa_cons {eb : β → List D} {f : T → OutX T α} {g : T → OutX T β} (ha : PE X e (tMX X.K l W .sh ea f)) (hb : PA X es (tMXA X.K l W eb g)) (hs : starEach (e :: es) X.env = (false, eval e X.env) :: starEach es X.env := by rfl) : PA X (e :: es) (tMXA X.K l W (consD ea eb) (xop2 (fun a b => .ok (a, b)) f g)) := PA.imp (pa_cons ha hb hs) fun σ H Q ⟨S, t, P, c, E, q⟩ => ⟨S, t, P, c, E, by
  unfold xop2 OutX.bind at q
  cases hf : f t with
  | ok a t1 =>
    rw [hf] at q
    intro v S1 H1 P1 Pv g1 E1 r1 o1 d1
    have o1 : Pv = Emp := o1
    subst o1
    have g1 := g1.orE
    refine ⟨S1, t1, P1, g1.cfg, E1, ?_⟩
    dsimp only at q
    cases hg : g t1 with
    | ok b t2 =>
      rw [hg] at q
      intro ws S2 H2 P2 g2 E2 r2
      exact (show XA X.K l W (consD ea eb) S H P σ Q (.ok (a, b) t2) from q) (v :: ws) S2 H2 P2 (g1.trans g2) E2 (Rep.joinE (r1.frame g2.s fun _ _ z => z.elim) r2)
    | ex e t2 => rw [hg] at q; exact XE.trans q g1
    | stuck => rw [hg] at q; exact q
  | ex e t1 => rw [hf] at q; exact q
  | stuck => rw [hf] at q; exact q⟩
theorem mx_tup {x1} {eb : β → List D} {fb : β → α} {g : T → OutX T β} (h : PA X es (tMXA X.K l W eb g)) (he : ∀ b, ea (fb b) = .tup (eb b)) (hl : ∀ b, decide ((eb b).length ≤ 100) = true := by intro _; rfl) : PE X (.Tuple es x1 pos) (tMX X.K l W .sh ea (xop1 (fun b => .ok (fb b)) g)) := PE.imp (pe_tup h) fun σ H Q ⟨S, t, P, c, E, q⟩ => ⟨S, t, P, c, E, by
  unfold xop1 OutX.bind at q
  cases hg : g t with
  | ok b t1 =>
    rw [hg] at q
    intro vs S' H' P' g1 E1 r
    refine ⟨by rw [r.len]; exact szOk (hl b), fun p hp => ?_⟩
    have gl := Grow.lay (o := .tup vs) g1.cfg.sub hp
    refine (show XV X.K l W .sh ea S H P σ Q (.ok (fb b) t1) from q) _ (S'.upd p (.tup vs)) _ P' Emp (by rw [or_emp]; exact g1.trans (gl.grw g1.cfg)) (E1.grow gl) ?_ rfl fun _ _ z => z
    rw [he]
    exact (Rep.tup (.of (show (S'.upd p (.tup vs)) p = _ from upd_same)) (r.grow gl) .nil (fun z => z) fun _ z => z.elim).emp fun x z => z.elim id id
  | ex e t1 => rw [hg] at q; exact q
  | stuck => rw [hg] at q; exact q⟩
theorem mx_lst {eb : β → List D} {fb : β → α} {g : T → OutX T β} (h : PA X es (tMXA X.K l W eb g)) (he : ∀ b, ea (fb b) = .lst (eb b)) (hl : ∀ b, decide ((eb b).length ≤ 100) = true := by intro _; rfl) : PE X (.List es pos) (tMX X.K l W .ow ea (xop1 (fun b => .ok (fb b)) g)) := PE.imp (pe_lst h) fun σ H Q ⟨S, t, P, c, E, q⟩ => ⟨S, t, P, c, E, by
  unfold xop1 OutX.bind at q
  cases hg : g t with
  | ok b t1 =>
    rw [hg] at q
    intro vs S' H' P' g1 E1 r
    refine ⟨by rw [r.len]; exact szOk (hl b), fun p hp => ?_⟩
    obtain ⟨g2, r2, o2, n2⟩ := own_lst g1.cfg.sub hp r
    have dj : Disj P' (fun x => x = p) := fun x hx e => by
      obtain ⟨o, h⟩ := g1.cfg.inh x hx
      rw [(n2 x e).1] at h
      cases h
    refine (show XV X.K l W .ow ea S H P σ Q (.ok (fb b) t1) from q) _ S' _ P' _ (g1.trans ?_) (E1.grow g2) (by rw [he]; exact r2) o2 dj
    exact ⟨g2.s, fun _ => g2.mu, ⟨g2.sub, fun x z => z.elim (g1.cfg.sep x) fun z => (n2 x z).2, fun x z => z.elim ((g1.cfg.grow g2).inh x) (r2.inH x)⟩, fun x o _ n z => g2.h.at_ x o n z, fun x z => z.elim .inl fun z => .inr (n2 x z).1, fun x o z => .inl ⟨o, z⟩, fun _ e => .inr (g2.h.free e)⟩
  | ex e t1 => rw [hg] at q; exact q
  | stuck => rw [hg] at q; exact q⟩
theorem Rep.toB {K : PySem.W.Frag} : ∀ {ds : List D} {vs : List V}, Rep K S H vs ds Emp → RepB K S H P vs ds
  | [], vs, r => by obtain ⟨rfl, _⟩ := r.nilP; exact .nil
  | d :: ds, vs, r => by
    obtain ⟨v, us, rfl, h1, h2⟩ := r.splitE
    exact .cons h1 (.inl rfl) (fun _ z => z.elim) (Rep.toB h2)
section
variable {R : List V → Hp → VK → Prop} {en : α → List D} {h : α → Res β} {x : Str} {id : String} {p : Pos} {g : T → OutX T α}
theorem xcb_of (o : OpN X.K R en eb h) (σ : L2.St) (H : Hp) (Q : VK) : tMX X.K l W .sh eb (xop1 h g) σ H Q → tCB R (tMXA X.K l W en g) σ H Q := fun ⟨S, t, P, c, E, q⟩ => ⟨S, t, P, c, E, by
  unfold xop1 OutX.bind at q
  cases hg : g t with
  | ok a t1 =>
    rw [hg] at q
    intro vs S1 H1 P1 g1 E1 r1
    exact o.run g1.cfg.sub (r1.toB (P := P1)) (RQ.nox (XV.res g1.cfg E1 (XV.trans q g1)) (o.nox a))
  | ex e t1 => rw [hg] at q; exact q
  | stuck => rw [hg] at q; exact q⟩
theorem xcb_ofO {m : Md} (o : OpNO X.K R m en eb h) (σ : L2.St) (H : Hp) (Q : VK) : tMX X.K l W m eb (xop1 h g) σ H Q → tCB R (tMXA X.K l W en g) σ H Q := fun ⟨S, t, P, c, E, q⟩ => ⟨S, t, P, c, E, by
  unfold xop1 OutX.bind at q
  cases hg : g t with
  | ok a t1 =>
    rw [hg] at q
    intro vs S1 H1 P1 g1 E1 r1
    refine o.run g1.cfg.sub (r1.toB (P := P1)) ?_
    have nx := o.nox a
    dsimp only at q
    cases hh : h a with
    | ok b =>
      rw [hh] at q
      intro v S' H' Pv g2 r2 o2 nw
      refine (XV.trans q g1) v S' H' P1 Pv ?_ (E1.grow g2) r2 o2 fun x z y => ?_
      · exact ⟨g2.s, fun _ => g2.mu, ⟨g2.sub, fun x z => z.elim ((g1.cfg.grow g2).sep x) fun z => (nw x z).2, fun x z => z.elim ((g1.cfg.grow g2).inh x) (r2.inH x)⟩, fun x o _ n z => g2.h.at_ x o n z, fun x z => z.elim .inl fun z => .inr (nw x z).1, fun x o z => (g2.new x o z).elim .inl fun z => .inr (.inr z), fun _ e => .inr (g2.h.free e)⟩
      · obtain ⟨o, h⟩ := g1.cfg.inh x z
        rw [(nw x y).1] at h
        cases h
    | ex e => exact absurd hh (nx e)
    | stuck => rw [hh] at q; exact q
  | ex e t1 => rw [hg] at q; exact q
  | stuck => rw [hg] at q; exact q⟩
theorem mx_callB (hc : CallR X (.builtin id) R) (o : OpN X.K R en eb h) (hg : Gl X x) (hm : X.mg x = none) (ha : PA X (e :: es) (tMXA X.K l W en g)) (hv : bootBuiltins x = some (.builtin id) := by decide +kernel) (hn : x ≠ "__name__" := by decide) (hdb : (x == ("__debug__" : Str)) = false := by decide)
    (he : starEach (e :: es) X.env = (false, eval e X.env) :: starEach es X.env := by rfl) (hpl : (backTo pos (starEach es X.env)).any (·.1) = false := by rfl) : PE X (.Call (.Name x p) (e :: es) [] pos) (tMX X.K l W .sh eb (xop1 h g)) := PE.imp (pe_callB hc hg hm hv ha hn hdb he hpl) (xcb_of o)
theorem mxo_callB {m : Md} (hc : CallR X (.builtin id) R) (o : OpNO X.K R m en eb h) (hg : Gl X x) (hm : X.mg x = none) (ha : PA X (e :: es) (tMXA X.K l W en g)) (hv : bootBuiltins x = some (.builtin id) := by decide +kernel) (hn : x ≠ "__name__" := by decide) (hdb : (x == ("__debug__" : Str)) = false := by decide)
    (he : starEach (e :: es) X.env = (false, eval e X.env) :: starEach es X.env := by rfl) (hpl : (backTo pos (starEach es X.env)).any (·.1) = false := by rfl) : PE X (.Call (.Name x p) (e :: es) [] pos) (tMX X.K l W m eb (xop1 h g)) := PE.imp (pe_callB hc hg hm hv ha hn hdb he hpl) (xcb_ofO o)
theorem mx_callTy (hc : CallR X (.type id) R) (o : OpN X.K R en eb h) (hg : Gl X x) (hm : X.mg x = none) (ha : PA X (e :: es) (tMXA X.K l W en g)) (hv : bootBuiltins x = some (.type id) := by decide +kernel) (hn : x ≠ "__name__" := by decide) (hdb : (x == ("__debug__" : Str)) = false := by decide)
    (he : starEach (e :: es) X.env = (false, eval e X.env) :: starEach es X.env := by rfl) (hpl : (backTo pos (starEach es X.env)).any (·.1) = false := by rfl) : PE X (.Call (.Name x p) (e :: es) [] pos) (tMX X.K l W .sh eb (xop1 h g)) := PE.imp (pe_callTy hc hg hm hv ha hn hdb he hpl) (xcb_of o)
theorem mxo_callTy {m : Md} (hc : CallR X (.type id) R) (o : OpNO X.K R m en eb h) (hg : Gl X x) (hm : X.mg x = none) (ha : PA X (e :: es) (tMXA X.K l W en g)) (hv : bootBuiltins x = some (.type id) := by decide +kernel) (hn : x ≠ "__name__" := by decide) (hdb : (x == ("__debug__" : Str)) = false := by decide)
    (he : starEach (e :: es) X.env = (false, eval e X.env) :: starEach es X.env := by rfl) (hpl : (backTo pos (starEach es X.env)).any (·.1) = false := by rfl) : PE X (.Call (.Name x p) (e :: es) [] pos) (tMX X.K l W m eb (xop1 h g)) := PE.imp (pe_callTy hc hg hm hv ha hn hdb he hpl) (xcb_ofO o)
end
end
end M

namespace M
open Enc (enc)
open PySem PySem.Spec PyProof.Rows L2 W
/-! ### statements upon what may write -/
section
variable {X : Cx} {T R α β γ : Type} {l : Lay T} {n : Nat} {W : WX} {m mr : Md} {er : R → D} {e e1 e2 : Expr} {ea : α → D} {eb : β → D} {f : T → OutX T α} {pos : Pos} {st : Stmt} {sts : List Stmt} {F G : T → Out T R} {Z : Ends} {S S' : Sh} {H H' : Hp} {P P' : FP} {σ : L2.St} {us : List Nat}
theorem andX_v {k : α → T → Out T R} {t : T} {Q : VK} (hl : σ.length = n) (q : OQ X.K l n W mr er S H P Z (andX f k t)) (h : ∀ a t1, OQ X.K l n W mr er S H P Z (k a t1) → XV X.K l W m ea S H P σ Q (.ok a t1)) : XV X.K l W m ea S H P σ Q (f t) := by
  unfold andX at q
  cases e : f t with
  | ok a t1 => rw [e] at q; exact h a t1 q
  | ex x t1 => rw [e] at q; exact fun cls d S' H' P' g E' r => q cls d σ S' H' P' g E' hl r
  | stuck => rw [e] at q; exact q
theorem andX_t {b : T → OutX T Bool} {k : Bool → T → Out T R} {t : T} {Q : Bool → Hp → Prop} (hl : σ.length = n) (q : OQ X.K l n W mr er S H P Z (andX b k t)) (h : ∀ a t1, OQ X.K l n W mr er S H P Z (k a t1) → XT X.K l W S H P σ Q (.ok a t1)) : XT X.K l W S H P σ Q (b t) := by
  unfold andX at q
  cases e : b t with
  | ok a t1 => rw [e] at q; exact h a t1 q
  | ex x t1 => rw [e] at q; exact fun cls d S' H' P' g E' r => q cls d σ S' H' P' g E' hl r
  | stuck => rw [e] at q; exact q
theorem msx_drop (he : PE X e (tMX X.K l W m ea f)) (hs : swapsWith e none pos.line X.env = pure false := by rfl) : MS X l n W mr er (.Expr e pos) (dropX f) := PS.imp (ps_expr he hs) fun D σ H ⟨S, t, P, c, E, hl, q⟩ =>
  ⟨S, t, P, c, E, andX_v hl q fun a t1 q v S' H' P' P1 g E' r o d => q σ S' H' P' (g.less fun x z => .inl z) E' hl⟩
theorem msx_ret {f : T → OutX T R} (he : PE X e (tMX X.K l W mr er f)) : MS X l n W mr er (.Return (some e) pos) (retX f) := PS.imp (ps_ret he) fun D σ H ⟨S, t, P, c, E, hl, q⟩ =>
  ⟨S, t, P, c, E, andX_v hl q fun a t1 q v S' H' P' P1 g E' r o d => q v σ S' H' P' P1 g E' r o d⟩
theorem msx_if {b : T → OutX T Bool} {c : Expr} {s1 s2 : List Stmt} (hc : PT X c (tMXT X.K l W b)) (h1 : MSs X l n W mr er s1 F) (h2 : MSs X l n W mr er s2 G) : MS X l n W mr er (.If c s1 s2 pos) (ifX b F G) := PS.imp (ps_if hc h1 h2) fun D σ H ⟨S, t, P, c, E, hl, q⟩ =>
  ⟨S, t, P, c, E, andX_t hl q fun a t1 q S' H' P' g E' => by
    cases a with
    | true => rw [if_pos rfl]; exact ⟨S', t1, P', g.cfg, E', hl, OQ.trans (by simpa using q) g⟩
    | false => rw [if_neg (by decide)]; exact ⟨S', t1, P', g.cfg, E', hl, OQ.trans (by simpa using q) g⟩⟩
theorem msx_set (i : Nat) {x : Str} {p : T → α → T} {pos' : Pos} (he : PE X e (tMX X.K l W m ea f)) (hN : X.N.Nodup) (hi : X.N[i]? = some x) (hx : Loc X.env.scope x) (k : Put l i m ea p) (hin : decide (i < n) = true := by rfl) (hs : swapsWith e (some (.Name x pos')) pos.line X.env = pure false := by rfl)
    (hf : X.fn x = true ∨ X.env.scope.names.lookup x = some .local := by first | exact .inl rfl | exact .inr rfl | assumption) : MS X l n W mr er (.Assign [.Name x pos'] e pos) (asgX f p) := PS.imp (L2.ps_set hN hi hx he hs hf) fun D σ H ⟨S, t, P, c, E, hl, q⟩ =>
  ⟨S, t, P, c, E, andX_v hl q fun a t1 q v S' H' P' P1 g E' r o d => by
    obtain ⟨P2, E2, k⟩ := k.put E' (by rw [hl]; exact of_decide_eq_true hin) r o fun x z y => d x y z
    exact q _ S' H' P2 (g.less fun x z => k x z) E2 (by rw [List.length_set]; exact hl)⟩
theorem msx_asgG {tg : Expr} {p : T → α → T} (he : PE X e (tMX X.K l W .sh ea f)) (hg : PG X tg (tMG X.K l n us ea p)) (hs : swapsWithSole [tg] e pos.line X.env = pure false := by rfl) (hw : swappedStores [tg] e X.env = pure none := by rfl)
    (h1 : (assignEach [tg] X.env).map (·.2) = [assign tg X.env] := by rfl) : MS X l n W mr er (.Assign [tg] e pos) (asgX f p) := PS.imp (ps_asg he hg hs hw h1) fun D σ H ⟨S, t, P, c, E, hl, q⟩ =>
  ⟨S, t, P, c, E, andX_v hl q fun a t1 q v S' H' P' P1 g E' r o d => by
    have o : P1 = Emp := o
    subst o
    have g := g.orE
    exact ⟨S', t1, P', a, g.cfg, E', hl, r, fun σ' P2 E2 k hl' _ => q σ' S' H' P2 (g.less k) E2 hl'⟩⟩
def tMXI (K : PySem.W.Frag) (l : Lay T) (W : WX) (ea : α → D) (f : T → OutX T (List α)) : TI := fun σ H R => ∃ S t P, Cfg l.tabs S H P ∧ Env K S H σ l t P ∧ match f t with
  | .ok xs t1 => ∀ J S1 H1 P1, Grw l.tabs S H P S1 H1 P1 → Env K S1 H1 σ l t1 P1 → Wk l.tabs K S1 H1 Emp ea xs J → R J H1
  | .ex e t1 => XE K l W S H P σ e t1
  | .stuck => False
theorem wk_list {tg : Expr} {K : PySem.W.Frag} {τ : TL} {S1 : Sh} {H1 : Hp} {a : Addr} {ws : List V} {xs : List α} (h2 : S1 a = some (.lst ws)) (r1 : Rep K S1 H1 ws (xs.map ea) Emp) : Wk τ K S1 H1 Emp ea xs (Itl K a) := by
  have hlen : ws.length = xs.length := by rw [r1.len, List.length_map]
  have at_ : ∀ {S' : Sh} {H' : Hp}, SL S1 S' → Sub τ S' H' → H' a = some (.lst ws) := fun s h => h _ _ (s _ _ h2)
  refine ⟨fun s h kk => ⟨ws, SqL.of (at_ s h), by omega⟩, fun hi s h kk => ?_, fun {i S' H' H2 x} hi s h kk y => ?_⟩
  · have hi' := hi
    rw [← hlen] at hi'
    exact ⟨ws, ws[_]'hi', SqL.of (at_ s h), List.getElem?_eq_getElem hi'⟩
  · obtain ⟨e, y⟩ := y
    subst e
    have y := y ws (SqL.of (at_ s h))
    obtain ⟨w, ew, rw'⟩ := Rep.getE r1 (i := i) (d := ea xs[i]) (by rw [List.getElem?_map, List.getElem?_eq_getElem hi]; rfl)
    rw [y] at ew
    cases ew
    exact ⟨S', .refl h, rw'.frame s fun _ _ z => z.elim⟩
theorem mxi_list {tg iter : Expr} {f : T → OutX T (List α)} {en : List α → D} (hen : ∀ xs, en xs = .lst (xs.map ea)) (he : PE X iter (tMX X.K l W .sh en f)) : PI X tg iter (tMXI X.K l W ea f) := PI.imp (pi_list he) fun σ H R ⟨S, t, P, c, E, q⟩ => ⟨S, t, P, c, E, by
  cases hf : f t with
  | ok xs t1 =>
    rw [hf] at q
    intro v S1 H1 P1 Pv g E1 r o d
    have o : Pv = Emp := o
    subst o
    have g := g.orE
    rw [hen] at r
    obtain ⟨a, ws, P1', rfl, hs, r1, _, ⟨h2, rfl⟩ | ⟨h2, _⟩⟩ := Rp.lst g.cfg.sub r
    case inr => exact h2.elim
    exact ⟨a, rfl, ⟨ws, SqL.of hs⟩, q _ S1 H1 P1 g E1 (wk_list (tg := tg) h2 r1)⟩
  | ex e t1 => rw [hf] at q; exact q
  | stuck => rw [hf] at q; exact q⟩
theorem msx_for {tg iter : Expr} {p : T → α → T} {body : List Stmt} {f : T → OutX T (List α)} (hp : PassesOwn (model X.prog X.w) X.A X.env X.xe) (hc : X.calm = true) (hi : PI X tg iter (tMXI X.K l W ea f)) (hg : PG X tg (tMG X.K l n us ea p)) (hb : MSs X l n W mr er body F) (hfs : ∀ x, foldedSetIterable iter X.env x = pure x := by intro _; rfl) :
    MS X l n W mr er (.For tg iter body [] pos) (forX f p F) := PS.imp (ps_for hp hc hi hg hb hfs) fun D σ H ⟨S, t, P, c, E, hl, q⟩ => ⟨S, t, P, c, E, by
  unfold forX andX at q
  cases hf : f t with
  | stuck => rw [hf] at q; exact q
  | ex x t1 => rw [hf] at q; exact fun cls d S' H' P' g E' r => q cls d σ S' H' P' g E' hl r
  | ok xs t1 =>
    rw [hf] at q
    intro J S1 H1 P1 g0 E1 wk
    dsimp only at q
    refine ⟨fun i m σ' H' => m = xs.length - i ∧ i ≤ xs.length ∧ ∃ S' t' P', Grw l.tabs S1 H1 P1 S' H' P' ∧ Env X.K S' H' σ' l t' P' ∧ σ'.length = n ∧ OQ X.K l n W mr er S' H' P' D (loopL p F (xs.drop i) t'),
      ⟨_, rfl, Nat.zero_le _, S1, t1, P1, .refl g0.cfg, E1, hl, OQ.trans q g0⟩, ?_⟩
    rintro i m σ' H' ⟨rfl, hle, S', t', P', g', E', hl', q'⟩
    by_cases hi : i < xs.length
    · refine .inr ⟨wk.go hi g'.s g'.cfg.sub fun _ _ z => z.elim, fun σ3 H3 => ∃ S3 t3 P3, Grw l.tabs S1 H1 P1 S3 H3 P3 ∧ Env X.K S3 H3 σ3 l t3 P3 ∧ σ3.length = n ∧ OQ X.K l n W mr er S3 H3 P3 D (loopL p F (xs.drop (i + 1)) t3), fun σ3 H3 z => ⟨_, ?_, rfl, hi, z⟩, fun x H2 y => ?_⟩
      · omega
      obtain ⟨S2, gy, ry⟩ := wk.yld hi g'.s g'.cfg.sub (fun _ _ z => z.elim) y
      rw [List.drop_eq_getElem_cons hi] at q'
      have gg := gy.grw g'.cfg
      refine ⟨S2, t', P', xs[i], gg.cfg, E'.grow gy, hl', ry, fun σ2 P2 E2 k2 hl2 _ => ⟨S2, _, P2, gg.cfg.mono k2, E2, hl2, ?_⟩⟩
      have g2 : Grw l.tabs S' H' P' S2 H2 P2 := gg.less k2
      unfold loopL at q'
      cases e : F (p t' xs[i]) with
      | nx t3 => rw [e] at q'; exact fun σ3 S3 H3 P3 g3 E3 hl3 => ⟨S3, t3, P3, g'.trans (g2.trans g3), E3, hl3, OQ.trans q' (g2.trans g3)⟩
      | ct t3 => rw [e] at q'; exact fun σ3 S3 H3 P3 g3 E3 hl3 => ⟨S3, t3, P3, g'.trans (g2.trans g3), E3, hl3, OQ.trans q' (g2.trans g3)⟩
      | bk t3 => rw [e] at q'; exact fun σ3 S3 H3 P3 g3 E3 hl3 => q' σ3 S3 H3 P3 (g2.trans g3) E3 hl3
      | rt r t3 => rw [e] at q'; exact fun v σ3 S3 H3 P3 Pr g3 => q' v σ3 S3 H3 P3 Pr (g2.trans g3)
      | ex x t3 => rw [e] at q'; exact fun cls d σ3 S3 H3 P3 g3 => q' cls d σ3 S3 H3 P3 (g2.trans g3)
      | stuck => rw [e] at q'; exact q'
    · have e : i = xs.length := by omega
      subst e
      refine .inl ⟨wk.stop g'.s g'.cfg.sub fun _ _ z => z.elim, ?_⟩
      rw [List.drop_length] at q'
      exact q' σ' S' H' P' (.refl g'.cfg) E' hl'⟩
end
/-! ### promises with the world -/
section
variable {ω α β : Type}
/-- it may write -/
def spW (K : PySem.W.Frag) (τ : TL) (ew : ω → D) (ea : α → List D) (mr : Md) (er : β → D) (f : α → List ω → OutX (List ω) β) : Sp := fun vs H Q E => ∃ S a w P, Cfg τ S H P ∧ WOk K S H ew w P ∧ Rep K S H vs (ea a) Emp ∧ match f a w with
  | .ok r w' => ∀ v S' H' P' P1, Grw τ S H P S' H' (fun x => P' x ∨ P1 x) → WOk K S' H' ew w' P' → Rp K S' H' v (er r) P1 → mr.ok v P1 → Disj P' P1 → Q v H'
  | .ex e w' => ∀ cls d S' H' P', Grw τ S H P S' H' P' → WOk K S' H' ew w' P' → ExRel K e cls d S' → E cls d H'
  | .stuck => False
/-- it reads the world -/
def spR (K : PySem.W.Frag) (τ : TL) (ew : ω → D) (ea : α → List D) (mr : Md) (er : β → D) (f : α → List ω → Res β) : Sp := fun vs H Q E => ∃ S a w, Sub τ S H ∧ WSh K S H ew w ∧ Rep K S H vs (ea a) Emp ∧
  RQ (f a w) (fun r => ∀ v S' H' P1, Grow τ S H S' H' → Rp K S' H' v (er r) P1 → mr.ok v P1 → (∀ x, P1 x → H x = none ∧ S' x = none) → Q v H') (fun e => ∀ S' H' cls d, Grow τ S H S' H' → ExRel K e cls d S' → E cls d H')
end
section
variable {ω T α β : Type} {K : PySem.W.Frag} {S S' S2 : Sh} {H H' H2 : Hp} {vs : List V} {ds : List D} {v : V} {d : D} {P : FP} {σ : L2.St} {l : Lay T} {τ : TL}
/-- data of numbers, texts, handles, tuples: they own nothing, and they are where their tuples are -/
class Emx {α : Type} (en : α → D) : Prop where
  mv : ∀ {K : PySem.W.Frag} {S S2 : Sh} {H H2 : Hp} {v : V} {P : FP} (a : α), Rp K S H v (en a) P → (∀ p ws, SqT K S p ws → SqT K S2 p ws) → (∀ i x, S.mu i = some x → S2.mu i = some x) → Rp K S2 H2 v (en a) Emp
  em : ∀ {K : PySem.W.Frag} {S : Sh} {H : Hp} {v : V} {P : FP} (a : α), Rp K S H v (en a) P → P = Emp
abbrev EmE (α : Type) [Enc α] : Prop := Emx (Enc.enc : α → D)
instance : EmE Int := ⟨fun a r _ _ => by obtain ⟨rfl, _⟩ := Rp.int r; exact Rep.int a .nil, fun a r => (Rp.int r).2⟩
instance : EmE Bool := ⟨fun a r _ _ => by obtain ⟨rfl, _⟩ := Rp.bl r; exact Rep.bl a .nil, fun a r => (Rp.bl r).2⟩
instance : EmE Str := ⟨fun a r _ _ => by obtain ⟨rfl, _, o⟩ := Rp.str r; exact Rep.str a o .nil, fun a r => (Rp.str r).2.1⟩
instance : EmE Unit := ⟨fun a r _ _ => by obtain ⟨rfl, _⟩ := Rp.non r; exact Rep.non .nil, fun a r => (Rp.non r).2⟩
theorem Rp.hnd {i : Nat} (r : Rp K S H v (.hnd i) P) : ∃ a, v = .ref a ∧ S.mu i = some a ∧ P = Emp := by cases r; rename_i h k; cases k; exact ⟨_, rfl, h, rfl⟩
instance : EmE Hn := ⟨fun a r _ m => by obtain ⟨x, rfl, h, _⟩ := Rp.hnd r; exact Rep.hnd _ (m _ _ h) .nil, fun a r => by obtain ⟨_, _, _, h⟩ := Rp.hnd r; exact h⟩
instance {α : Type} [Enc α] [q : EmE α] : EmE (Option α) := ⟨fun a r s m => by
  cases a with
  | none => obtain ⟨rfl, _⟩ := Rp.non r; exact Rep.non .nil
  | some a => exact q.mv a r s m, fun a r => by
  cases a with
  | none => exact (Rp.non r).2
  | some a => exact q.em a r⟩
theorem emx_tup {es : List D} (r : Rp K S H v (.tup es) P) (t : ∀ p ws, SqT K S p ws → SqT K S2 p ws) (k : ∀ {ws : List V} {P : FP}, Rep K S H ws es P → Rep K S2 H2 ws es Emp) : Rp K S2 H2 v (.tup es) Emp := by
  obtain ⟨p, ws, rfl, h, r1, _⟩ := Rp.tup r
  exact (Rep.tup (t p ws h) (k r1) .nil (fun z => z) fun _ z => z.elim).emp fun x z => z.elim id id
instance {α β : Type} [Enc α] [Enc β] [q : EmE α] [z : EmE β] : EmE (T2 α β) := ⟨fun a r t m => emx_tup r t fun r => by
  obtain ⟨v1, us1, _, _, rfl, r1, s1, _⟩ := r.split
  obtain ⟨v2, us2, _, _, rfl, r2, s2, _⟩ := s1.split
  obtain ⟨rfl, _⟩ := s2.nilP
  exact (q.mv _ r1 t m).joinE ((z.mv _ r2 t m).joinE .nil), fun a r => by
  obtain ⟨p, ws, rfl, h, r, _⟩ := Rp.tup r
  obtain ⟨v1, us1, A1, B1, rfl, r1, s1, _, h1⟩ := r.split
  obtain ⟨v2, us2, A2, B2, rfl, r2, s2, _, h2⟩ := s1.split
  obtain ⟨rfl, e9⟩ := s2.nilP
  have e1 := q.em _ r1
  have e2 := z.em _ r2
  exact fp_eq fun x => by simp [h1 x, h2 x, e1, e2, e9]⟩
instance {α β γ : Type} [Enc α] [Enc β] [Enc γ] [q : EmE α] [z : EmE β] [y : EmE γ] : EmE (T3 α β γ) := ⟨fun a r t m => emx_tup r t fun r => by
  obtain ⟨v1, us1, _, _, rfl, r1, s1, _⟩ := r.split
  obtain ⟨v2, us2, _, _, rfl, r2, s2, _⟩ := s1.split
  obtain ⟨v3, us3, _, _, rfl, r3, s3, _⟩ := s2.split
  obtain ⟨rfl, _⟩ := s3.nilP
  exact (q.mv _ r1 t m).joinE ((z.mv _ r2 t m).joinE ((y.mv _ r3 t m).joinE .nil)), fun a r => by
  obtain ⟨p, ws, rfl, h, r, _⟩ := Rp.tup r
  obtain ⟨v1, us1, A1, B1, rfl, r1, s1, _, h1⟩ := r.split
  obtain ⟨v2, us2, A2, B2, rfl, r2, s2, _, h2⟩ := s1.split
  obtain ⟨v3, us3, A3, B3, rfl, r3, s3, _, h3⟩ := s2.split
  obtain ⟨rfl, e9⟩ := s3.nilP
  have e1 := q.em _ r1
  have e2 := z.em _ r2
  have e3 := y.em _ r3
  exact fp_eq fun x => by simp [h1 x, h2 x, h3 x, e1, e2, e3, e9]⟩
instance {α β γ δ : Type} [Enc α] [Enc β] [Enc γ] [Enc δ] [q : EmE α] [z : EmE β] [y : EmE γ] [u : EmE δ] : EmE (T4 α β γ δ) := ⟨fun a r t m => emx_tup r t fun r => by
  obtain ⟨v1, us1, _, _, rfl, r1, s1, _⟩ := r.split
  obtain ⟨v2, us2, _, _, rfl, r2, s2, _⟩ := s1.split
  obtain ⟨v3, us3, _, _, rfl, r3, s3, _⟩ := s2.split
  obtain ⟨v4, us4, _, _, rfl, r4, s4, _⟩ := s3.split
  obtain ⟨rfl, _⟩ := s4.nilP
  exact (q.mv _ r1 t m).joinE ((z.mv _ r2 t m).joinE ((y.mv _ r3 t m).joinE ((u.mv _ r4 t m).joinE .nil))), fun a r => by
  obtain ⟨p, ws, rfl, h, r, _⟩ := Rp.tup r
  obtain ⟨v1, us1, A1, B1, rfl, r1, s1, _, h1⟩ := r.split
  obtain ⟨v2, us2, A2, B2, rfl, r2, s2, _, h2⟩ := s1.split
  obtain ⟨v3, us3, A3, B3, rfl, r3, s3, _, h3⟩ := s2.split
  obtain ⟨v4, us4, A4, B4, rfl, r4, s4, _, h4⟩ := s3.split
  obtain ⟨rfl, e9⟩ := s4.nilP
  have e1 := q.em _ r1
  have e2 := z.em _ r2
  have e3 := y.em _ r3
  have e4 := u.em _ r4
  exact fp_eq fun x => by simp [h1 x, h2 x, h3 x, h4 x, e1, e2, e3, e4, e9]⟩
theorem emx_map {en : α → D} [q : Emx en] (t : ∀ p ws, SqT K S p ws → SqT K S2 p ws) (m : ∀ i x, S.mu i = some x → S2.mu i = some x) : ∀ {xs : List α} {ws : List V} {P : FP}, Rep K S H ws (xs.map en) P → Rep K S2 H2 ws (xs.map en) Emp
  | [], ws, P, r => by obtain ⟨rfl, _⟩ := r.nilP; exact .nil
  | x :: xs, ws, P, r => by
    obtain ⟨v, us, P1, P2, rfl, r1, r2, _, _⟩ := r.split
    exact (q.mv x r1 t m).joinE (emx_map t m r2)
theorem emx_mapE {en : α → D} [q : Emx en] : ∀ {xs : List α} {ws : List V} {P : FP}, Rep K S H ws (xs.map en) P → P = Emp
  | [], ws, P, r => (r.nilP).2
  | x :: xs, ws, P, r => by
    obtain ⟨v, us, P1, P2, rfl, r1, r2, _, h⟩ := r.split
    have e1 := q.em x r1
    have e2 := emx_mapE r2
    exact fp_eq fun x => by rw [h, e1, e2]; simp
/-- an answer that holds nothing of what was lent -/
class Mvs {α : Type} (m : outParam Md) (en : α → D) : Prop where
  mv : ∀ {K : PySem.W.Frag} {S S2 : Sh} {H : Hp} {v : V} {P : FP} (a : α), Same S H → Rp K S H v (en a) P → m.ok v P → (∀ x, P x → S x = none) → (∀ p ws, SqT K S p ws → SqT K S2 p ws) → (∀ i x, S.mu i = some x → S2.mu i = some x) → Rp K S2 H v (en a) P
theorem mvs_sh {en : α → D} [q : Emx en] : Mvs .sh en := ⟨fun a _ r o _ t m => by
  have o : _ = Emp := o
  subst o
  exact q.mv a r t m⟩
theorem mvs_ow [Enc α] [q : EmE α] : Mvs .ow (Enc.enc : List α → D) := ⟨fun {K S S2 H v P} a sub r o n t m => by
  obtain ⟨p, ws, P1, rfl, h, r1, _, ⟨h2, _⟩ | ⟨_, n1, e⟩⟩ := Rp.lst sub r
  · obtain ⟨q, e1, rfl⟩ := o
    cases e1
    rw [n p rfl] at h2
    cases h2
  · have e1 := emx_mapE r1
    refine (Rep.owl h (emx_map (H2 := H) t m r1) .nil (fun z => z) (fun z => z) fun _ z => z.elim).cast fun x => ?_
    rw [e x, e1]
    simp⟩
/-- the world is lent: all that the frame owns is shared meanwhile -/
structure Wv (l : Lay T) (ew : ω → D) (gw : T → List ω) : Prop where
  vw : ∀ {K : PySem.W.Frag} {S : Sh} {H : Hp} {σ : L2.St} {t : T} {P : FP}, Same S H → Env K S H σ l t P → WSh K (frz S H P) H ew (gw t)
theorem Wv.z {ew : ω → D} : Wv (.wld τ ew) ew id := ⟨fun {K S H σ t P} sub e => by
  have e : WOk K S H ew t P := e
  obtain ⟨Ps, h1, h2, _, h4⟩ := e.ex
  refine ⟨fun i o hi => ?_⟩
  obtain ⟨a, ha, r, hp⟩ := h1 i o hi
  exact ⟨a, ha, Rep.freeze sub (r.frame (SL.tupL S) fun _ _ _ _ z => z) (nd_all _) (frz_same sub) (frz_sub0 sub) fun x o hx z => by rw [frz_in ((h4 x).mpr ⟨i, hx⟩)]; exact z⟩⟩
theorem Wv.r {ew : ω → D} : Wv (.rwd τ ew) ew id := ⟨fun {K S H σ t P} sub e => by
  obtain ⟨e, rfl⟩ : WSh K S H ew t ∧ P = Emp := e
  exact e.frame (frz_same sub)⟩
theorem frz_more {P Q : FP} (h : ∀ x, P x → Q x) : SL (frz S H P) (frz S H Q) → True := fun _ => trivial
open Classical in
theorem Wv.s {i : Nat} {m : Md} {en : α → D} {ew : ω → D} {gw : T → List ω} (q : Wv l ew gw) : Wv (.cons i m en l) ew (fun t => gw t.2) := ⟨fun {K S H σ t P} sub e => by
  obtain ⟨x, t⟩ := t
  cases x with
  | none => exact q.vw (t := t) sub e
  | some b =>
    obtain ⟨v, P1, P2, h, r, o, e2, dj, rfl⟩ := e
    refine (q.vw sub e2).frame ⟨fun x o z => ?_, fun _ _ e => e⟩
    by_cases hx : P2 x
    · rw [frz_in (P := fun x => P1 x ∨ P2 x) (.inr hx)]
      rw [frz_in hx] at z
      exact z
    · rw [frz_out hx] at z
      by_cases hy : P1 x
      · rw [frz_in (P := fun x => P1 x ∨ P2 x) (.inl hy)]
        exact sub _ _ z
      · rw [frz_out (P := fun x => P1 x ∨ P2 x) fun k => k.elim hy hx]
        exact z⟩
end
section
variable {X : Cx} {ω T α α' β : Type} {l : Lay T} {W : WX} {e : Expr} {es : List Expr} {ew : ω → D} {gw : T → List ω} {pw : T → List ω → T} {ea : α → List D} {ea' : α' → List D} {er : β → D} {mr : Md} {fm : α → List ω → Res β} {fw : α → List ω → OutX (List ω) β} {g : T → Res α'} {gx : T → OutX T α'} {k : Nat} {f : Addr} {fd : FuncData} {ps : List Str} {dvs : List V} {ds : List Value} {dd : List D} {x : Str} {p pos : Pos}
open Classical in
theorem call_qR [mv : Mvs mr er] (wv : Wv l ew gw) {fa : α' → α} (hfa : ∀ a, ea (fa a) = ea' a ++ dd) (hdd : ∀ S H, Rep X.K S H dvs dd Emp) (σ : L2.St) (H : Hp) (Q : VK) : tMO X.K l W mr er (fun t => (g t).bind fun a => fm (fa a) (gw t)) σ H Q → tCallSD (spR X.K l.tabs.pure ew ea mr er fm) dvs (WE W) (tMA X.K l W ea' g) σ H Q := fun ⟨S, t, P, c, E, q⟩ =>
  ⟨S, t, P, c, E, q.bind.imp (fun a q vs S1 H1 g1 r1 => by
    have c1 := c.grow g1
    have E1 := E.grow g1
    have fs := frz_same (P := P) g1.sub.le
    refine ⟨frz S1 H1 P, fa a, gw t, (frz_sub g1.sub E1.ntH).re, wv.vw g1.sub E1, ?_, RQ.imp q (fun r q v S' H' P1 g2 r2 o2 n2 => ?_) fun x z S' H' cls d g2 xr => z (M.unfrz P S') H' cls d (g1.trans (Grow.unfrz (K := X.K) c1 E1.tupH E1.ntH g2.re).1) (xr.unfrz c1 E1 g2.re)⟩
    · rw [hfa]; exact Rep.appE (r1.frame fs fun _ _ z => z.elim) (hdd _ H1)
    · obtain ⟨g3, t3⟩ := Grow.unfrz (K := X.K) (τ := l.tabs) c1 E1.tupH E1.ntH g2.re
      have hn : ∀ x, P1 x → (M.unfrz P S') x = none := fun x hx => by
        show (if P x then none else S' x) = none
        split
        · rfl
        · exact (n2 x hx).2
      exact q v (M.unfrz P S') H' P1 (g1.trans g3) (mv.mv r g2.sub r2 o2 (fun x hx => (n2 x hx).2) t3 fun _ _ e => e) o2 fun x hx => ⟨g1.h.free (n2 x hx).1, hn x hx⟩) fun _ z => z⟩
theorem mo_callR [Mvs mr er] (wv : Wv l ew gw) {fa : α' → α} (F : FnOk X.prog X.w X.K X.mg X.base (L2.CX X.prog X.w) k f fd ps (spR X.K l.tabs.pure ew ea mr er fm)) (hr : Room k X.A) (hg : Gl X x) (hm : X.mg x = some (.ref f)) (hk : PySem.W.keepIn X.K (.ref f) = true) (hb : Binds X.K fd ps ds) (hd : Vals dvs ds) (tk : Takes X W)
    (ha : PA X (e :: es) (tMA X.K l W ea' g)) (hfa : ∀ a, ea (fa a) = ea' a ++ dd) (hdd : ∀ S H, Rep X.K S H dvs dd Emp) (hdb : (x == ("__debug__" : Str)) = false := by decide)
    (he : starEach (e :: es) X.env = (false, eval e X.env) :: starEach es X.env := by rfl) (hpl : (backTo pos (starEach es X.env)).any (·.1) = false := by rfl) : PE X (.Call (.Name x p) (e :: es) [] pos) (tMO X.K l W mr er (fun t => (g t).bind fun a => fm (fa a) (gw t))) :=
  PE.imp (pe_callSD F hr hg hm hk hb hd (fun σ => passAt tk σ) ha hdb he hpl) (call_qR wv hfa hdd)
/-- what a writer's answer is, seen from the caller -/
theorem spW_q (wl : Wl l ew gw pw) {S : Sh} {H : Hp} {σ : L2.St} {t : T} {P : FP} {vs : List V} {a : α} {Q : VK} (c : Cfg l.tabs S H P) (E : Env X.K S H σ l t P) (r : Rep X.K S H vs (ea a) Emp) (q : XV X.K l W mr er S H P σ Q ((fw a (gw t)).back pw t)) : spW X.K l.tabs ew ea mr er fw vs H Q (WE W σ) := by
  obtain ⟨Ps, Pw, hw, d, rfl, bk⟩ := wl.split E
  have nt : ∀ x o, Ps x → H x = some o → NT o := fun x o hx e => E.ntH x o (.inl hx) e
  refine ⟨S, a, gw t, Pw, c.mono fun x z => .inr z, hw, r, ?_⟩
  cases hf : fw a (gw t) with
  | ok b w' =>
    rw [hf] at q
    intro v S' H' P' P1 g hw' r' o' d'
    have g2 := g.frameL c nt d
    have dP : Disj Ps (fun x => P' x ∨ P1 x) := fun x hx z => by
      rcases g.fp x z with y | y
      · exact d x hx y
      · obtain ⟨u, e⟩ := c.inh x (.inl hx)
        rw [y] at e; cases e
    have keep : ∀ x o, Ps x → NT o → H x = some o → H' x = some o := fun x o hx n e => g.keep x o (fun z => d x hx z) n e
    have E' := bk S' H' w' P' g.s keep hw' fun x hx z => dP x hx (.inl z)
    refine q v S' H' (fun x => Ps x ∨ P' x) P1 ?_ E' r' o' fun x z y => z.elim (fun z => dP x z (.inr y)) fun z => d' x z y
    have e : (fun x => Ps x ∨ (P' x ∨ P1 x)) = fun x => (Ps x ∨ P' x) ∨ P1 x := fp_eq fun x => ⟨fun z => z.elim (fun z => .inl (.inl z)) fun z => z.elim (fun z => .inl (.inr z)) .inr, fun z => z.elim (fun z => z.elim .inl fun z => .inr (.inl z)) fun z => .inr (.inr z)⟩
    rw [← e]
    exact g2
  | ex x w' =>
    rw [hf] at q
    intro cls d0 S' H' P' g hw' r'
    have g2 := g.frameL c nt d
    have dP : Disj Ps P' := fun x hx z => by
      rcases g.fp x z with y | y
      · exact d x hx y
      · obtain ⟨u, e⟩ := c.inh x (.inl hx)
        rw [y] at e; cases e
    exact q cls d0 S' H' (fun x => Ps x ∨ P' x) g2 (bk S' H' w' P' g.s (fun x o hx n e => g.keep x o (fun z => d x hx z) n e) hw' dP) r'
  | stuck => rw [hf] at q; exact q
theorem call_qW (wl : Wl l ew gw pw) {fa : α' → α} (hfa : ∀ a, ea (fa a) = ea' a ++ dd) (hdd : ∀ S H, Rep X.K S H dvs dd Emp) (σ : L2.St) (H : Hp) (Q : VK) : tMX X.K l W mr er (callX gw pw (fun a w => fw (fa a) w) gx) σ H Q → tCallSD (spW X.K l.tabs ew ea mr er fw) dvs (WE W) (tMXA X.K l W ea' gx) σ H Q := fun ⟨S, t, P, c, E, q⟩ => ⟨S, t, P, c, E, by
  unfold callX OutX.bind at q
  cases hg : gx t with
  | ok a t1 =>
    rw [hg] at q
    intro vs S1 H1 P1 g1 E1 r1
    exact spW_q wl (a := fa a) g1.cfg E1 (by rw [hfa]; exact Rep.appE r1 (hdd _ _)) (XV.trans q g1)
  | ex e t1 => rw [hg] at q; exact q
  | stuck => rw [hg] at q; exact q⟩
theorem mx_callW (wl : Wl l ew gw pw) {fa : α' → α} (F : FnOk X.prog X.w X.K X.mg X.base (L2.CX X.prog X.w) k f fd ps (spW X.K l.tabs ew ea mr er fw)) (hr : Room k X.A) (hg : Gl X x) (hm : X.mg x = some (.ref f)) (hk : PySem.W.keepIn X.K (.ref f) = true) (hb : Binds X.K fd ps ds) (hd : Vals dvs ds) (tk : Takes X W)
    (ha : PA X (e :: es) (tMXA X.K l W ea' gx)) (hfa : ∀ a, ea (fa a) = ea' a ++ dd) (hdd : ∀ S H, Rep X.K S H dvs dd Emp) (hdb : (x == ("__debug__" : Str)) = false := by decide)
    (he : starEach (e :: es) X.env = (false, eval e X.env) :: starEach es X.env := by rfl) (hpl : (backTo pos (starEach es X.env)).any (·.1) = false := by rfl) : PE X (.Call (.Name x p) (e :: es) [] pos) (tMX X.K l W mr er (callX gw pw (fun a w => fw (fa a) w) gx)) :=
  PE.imp (pe_callSD F hr hg hm hk hb hd (fun σ => passAt tk σ) ha hdb he hpl) (call_qW wl hfa hdd)
end
end M

namespace M
open Enc (enc)
open PySem PySem.Spec PyProof.Rows L2 W
/-! ### things: their fields -/
section
variable {ω T α β : Type} {K : PySem.W.Frag} {S S' : Sh} {H H' : Hp} {σ : L2.St} {l : Lay T} {P P' : FP} {τ : TL} {vs ws : List V} {v : V} {d : D}
theorem zip_lookup {f : Str} : ∀ {fs : List (Str × Option D)} {ws : List V} {P : FP}, Rep K S H ws (vsOf fs) P → fs.lookup f = some (some d) → ∃ v Pv, ((nsOf fs).zip ws).lookup f = some v ∧ Rp K S H v d Pv ∧ ∀ x, Pv x → P x
  | [], ws, P, _, h => by simp at h
  | (g, none) :: r, ws, P, q, h => by
    have q : Rep K S H ws (vsOf r) P := q
    rw [List.lookup_cons] at h
    split at h
    · cases h
    · exact zip_lookup (fs := r) q h
  | (g, some d') :: r, ws, P, q, h => by
    have q : Rep K S H ws (d' :: vsOf r) P := q
    obtain ⟨w, us, P1, P2, rfl, r1, r2, _, hp⟩ := q.split
    rw [List.lookup_cons] at h
    show ∃ v Pv, ((g :: nsOf r).zip (w :: us)).lookup f = some v ∧ _
    rw [List.zip_cons_cons, List.lookup_cons]
    split at h
    · rename_i e
      cases h
      exact ⟨w, P1, by simp only [e], r1, fun x z => (hp x).mpr (.inl z)⟩
    · rename_i e
      obtain ⟨v, Pv, h1, h2, h3⟩ := zip_lookup (fs := r) r2 h
      exact ⟨v, Pv, h1, h2, fun x z => (hp x).mpr (.inr (h3 x z))⟩
theorem nsOf_none {r : List (Str × Option D)} (h : r.all (fun p => p.2.isNone) = true) : nsOf r = [] ∧ vsOf r = [] := by
  induction r with
  | nil => exact ⟨rfl, rfl⟩
  | cons q r ih =>
    rw [List.all_cons, Bool.and_eq_true] at h
    obtain ⟨g, o⟩ := q
    cases o with
    | none => exact ih h.2
    | some d => cases h.1
theorem nsOf_len : ∀ (fs : List (Str × Option D)), (nsOf fs).length = (vsOf fs).length
  | [] => rfl
  | (g, none) :: r => nsOf_len r
  | (g, some d) :: r => congrArg (· + 1) (nsOf_len r)
/-- a field is stored -/
theorem zip_put {f : Str} {y : V} {Pn : FP} (ry : Rp K S H y d Pn) : ∀ {fs : List (Str × Option D)} {ws : List V} {P : FP}, Rep K S H ws (vsOf fs) P → stO f fs = true → Disj Pn P → ∃ ws' P', L2.putF f y ((nsOf fs).zip ws) = (nsOf (putO f d fs)).zip ws' ∧ Rep K S H ws' (vsOf (putO f d fs)) P' ∧ ∀ x, P' x → P x ∨ Pn x
  | [], _, _, _, h, _ => by cases h
  | (g, none) :: r, ws, P, q, h, dj => by
    have q : Rep K S H ws (vsOf r) P := q
    unfold stO at h
    by_cases e : g = f
    · rw [if_pos e] at h
      have h : r.all (fun p => p.2.isNone) = true := h
      obtain ⟨h1, h2⟩ := nsOf_none h
      have e1 : nsOf ((g, none) :: r) = [] := h1
      rw [e1]
      unfold putO
      rw [if_pos e]
      rw [h2] at q
      obtain ⟨rfl, rfl⟩ := q.nilP
      refine ⟨[y], Pn, ?_, ?_, fun x z => .inr z⟩
      · show L2.putF f y [] = (g :: nsOf r).zip [y]
        rw [h1, e]
        rfl
      · show Rep K S H [y] (d :: vsOf r) Pn
        rw [h2]
        exact ry
    · rw [if_neg e] at h
      unfold putO
      rw [if_neg e]
      exact zip_put ry (fs := r) q h dj
  | (g, some d') :: r, ws, P, q, h, dj => by
    have q : Rep K S H ws (d' :: vsOf r) P := q
    obtain ⟨w, us, P1, P2, rfl, r1, r2, dd, hp⟩ := q.split
    unfold stO at h
    have ez : (nsOf ((g, some d') :: r)).zip (w :: us) = (g, w) :: (nsOf r).zip us := rfl
    rw [ez]
    unfold putO L2.putF
    by_cases e : g = f
    · rw [if_pos e, if_pos e]
      refine ⟨y :: us, fun x => Pn x ∨ P2 x, rfl, ry.join r2 fun x z y => dj x z ((hp x).mpr (.inr y)), fun x z => z.elim .inr fun z => .inl ((hp x).mpr (.inr z))⟩
    · rw [if_neg e] at h
      rw [if_neg e, if_neg e]
      obtain ⟨ws', P', h1, h2, h3⟩ := zip_put ry (fs := r) r2 h fun x z y => dj x z ((hp x).mpr (.inr y))
      refine ⟨w :: ws', fun x => P1 x ∨ P' x, ?_, r1.join h2 fun x z y => (h3 x y).elim (dd x z) fun y => dj x y ((hp x).mpr (.inl z)), fun x z => z.elim (fun z => .inl ((hp x).mpr (.inl z))) fun z => (h3 x z).elim (fun z => .inl ((hp x).mpr (.inr z))) .inr⟩
      rw [h1]
      rfl
/-- reading a thing -/
structure Wr (sh : Bool) (l : Lay T) (ew : ω → D) (gw : T → List ω) : Prop where
  rd : ∀ {K : PySem.W.Frag} {S : Sh} {H : Hp} {σ : L2.St} {t : T} {P : FP} {i : Nat} {o : ω}, Env K S H σ l t P → (gw t)[i]? = some o → ∃ a P1, S.mu i = some a ∧ Rp K S H (.ref a) (ew o) P1 ∧ (∀ x, P1 x → P x) ∧ (sh = true → P1 = Emp)
theorem Wr.w {ew : ω → D} : Wr false (.wld τ ew) ew id := ⟨fun {K S H σ t P i o} e hi => by
  have e : WOk K S H ew t P := e
  obtain ⟨Ps, h1, h2, _, h4⟩ := e.ex
  obtain ⟨a, ha, r, _⟩ := h1 i o hi
  exact ⟨a, _, ha, r.frame (SL.tupL S) fun _ _ _ _ z => z, fun x z => (h4 x).mpr ⟨i, z⟩, fun z => nomatch z⟩⟩
theorem Wr.r {ew : ω → D} : Wr true (.rwd τ ew) ew id := ⟨fun {K S H σ t P i o} e hi => by
  obtain ⟨e, rfl⟩ : WSh K S H ew t ∧ P = Emp := e
  obtain ⟨a, ha, r⟩ := e.at_ i o hi
  exact ⟨a, _, ha, r, fun x z => z, fun _ => rfl⟩⟩
theorem Wr.s {sh : Bool} {i : Nat} {m : Md} {en : α → D} {ew : ω → D} {gw : T → List ω} (q : Wr sh l ew gw) : Wr sh (.cons i m en l) ew (fun t => gw t.2) := ⟨fun {K S H σ t P j o} e hi => by
  obtain ⟨x, t⟩ := t
  cases x with
  | none => exact q.rd (t := t) e hi
  | some b =>
    obtain ⟨v, P1, P2, h, r, o, e2, dj, rfl⟩ := e
    obtain ⟨a, P3, ha, r3, k, z⟩ := q.rd e2 hi
    exact ⟨a, P3, ha, r3, fun x z => .inr (k x z), z⟩⟩
structure Fld [Wd ω] (cs : List Str) (f : Str) (en : α → D) (get : ω → Option α) : Prop where
  at_ : ∀ {o : ω} {a : α}, get o = some a → ∃ c fs, Wd.kd o = .obj c fs ∧ c ∈ cs ∧ fs.lookup f = some (some (en a))
structure FldS [Wd ω] (cs : List Str) (f : Str) (en : α → D) (set : ω → α → Option ω) : Prop where
  at_ : ∀ {o o' : ω} {a : α}, set o a = some o' → ∃ c fs, Wd.kd o = .obj c fs ∧ c ∈ cs ∧ stO f fs = true ∧ fs.length < 900 ∧ Wd.kd o' = .obj c (putO f (en a) fs)
/-- what is asked of classes at a field -/
structure ClA (K : PySem.W.Frag) (f : Str) (c : Str) : Prop where
  cl : Cls K (He.ga K c)
  na : NoAttr K (He.ga K c) f
theorem Rp.objW [Wd ω] {o : ω} {c : Str} {fs : List (Str × Option D)} (s : Same S H) (r : Rp K S H v (encW o) P) (e : Wd.kd o = .obj c fs) : ∃ p dx ws P1, v = .ref p ∧ H p = some (.ins (He.ga K c) dx ((nsOf fs).zip ws)) ∧ Rep K S H ws (vsOf fs) P1 ∧ (∀ x, P1 x → P x) := by
  unfold encW at r
  rw [e] at r
  obtain ⟨p, dx, ws, P1, rfl, h, _, r1, k⟩ := Rp.obj s r
  exact ⟨p, dx, ws, P1, rfl, h, r1, k⟩
/-- data that own at most themselves -/
class Fla {α : Type} (en : α → D) : Prop where
  fl : ∀ {K : PySem.W.Frag} {S : Sh} {H : Hp} {v : V} {P : FP} (a : α), Same S H → Rp K S H v (en a) P → Fl v P
instance {en : α → D} [q : Emx en] : Fla en := ⟨fun a _ r => .inl (q.em a r)⟩
instance {α : Type} [Enc α] [q : EmE α] : Fla (Enc.enc : List α → D) := ⟨fun a s r => by
  obtain ⟨p, ws, P1, rfl, h, r1, k, ⟨_, e⟩ | ⟨_, n1, e⟩⟩ := Rp.lst s r
  · cases r with
    | shl _ _ z => exact .inl ((z.nilP).2)
    | owl h1 r2 z =>
      have e1 := emx_mapE r2
      have e2 := (z.nilP).2
      exact .inr ⟨p, rfl, fp_eq fun x => by rw [e1, e2]; simp⟩
  · have e1 := emx_mapE r1
    exact .inr ⟨p, rfl, fp_eq fun x => by rw [e, e1]; simp⟩⟩
end
section
variable {X : Cx} {ω T R α β : Type} [Wd ω] {l : Lay T} {n : Nat} {W : WX} {mr m : Md} {er : R → D} {o e : Expr} {en : α → D} {gw : T → List ω} {pw : T → List ω → T} {get : ω → Option α} {set : ω → α → Option ω} {cs : List Str} {f : Str} {fo : T → Res Hn} {fe : T → OutX T α} {pos pos' : Pos} {sh : Bool}
abbrev eH : Hn → D := Enc.enc
/-- o.f, what it holds -/
theorem fld_q {S : Sh} {H : Hp} {σ : L2.St} {t : T} {P : FP} {i : Nat} {a : α} {p : Addr} (wr : Wr sh l (encW : ω → D) gw) (fl : Fld cs f en get) (hc : ∀ c ∈ cs, ClA X.K f c) (c : Cfg l.tabs S H P) (E : Env X.K S H σ l t P) (hp : S.mu i = some p) (e : (gw t)[i]?.bind get = some a) :
    ∃ C dx fs v P1, H p = some (.ins C dx fs) ∧ Cls X.K C ∧ NoAttr X.K C f ∧ fs.lookup f = some v ∧ Rp X.K S H v (en a) P1 ∧ (∀ x, P1 x → P x) ∧ (sh = true → P1 = Emp) := by
  obtain ⟨ob, h1, h2⟩ := Option.bind_eq_some_iff.mp e
  obtain ⟨q, P1, hq, r, k, z⟩ := wr.rd E h1
  rw [hp] at hq
  cases hq
  obtain ⟨cn, fs, ek, hcs, hl⟩ := fl.at_ h2
  obtain ⟨p', dx, ws, P2, e1, hH, r2, k2⟩ := Rp.objW c.sub.le r ek
  cases e1
  obtain ⟨v, Pv, h3, r3, k3⟩ := zip_lookup r2 hl
  exact ⟨_, dx, _, v, Pv, hH, (hc cn hcs).cl, (hc cn hcs).na, h3, r3, fun x y => k x (k2 x (k3 x y)), fun y => fp_eq fun x => ⟨fun w => (z y) ▸ k2 x (k3 x w), False.elim⟩⟩
theorem me_fld [Emx en] (wr : Wr sh l (encW : ω → D) gw) (fl : Fld cs f en get) (hc : ∀ c ∈ cs, ClA X.K f c) (ho : PE X o (tME X.K l W eH fo)) (hb : attributeBase o f X.env (eval o X.env) = eval o X.env := by rfl) : PE X (.Attribute o f pos) (tME X.K l W en (fldF gw get fo)) := PE.imp (pe_fld ho hb) fun σ H Q ⟨S, t, P, c, E, q⟩ =>
  ⟨S, t, P, c, E, q.bind.imp (fun h q v S1 H1 g r => by
    obtain ⟨a, e, q⟩ := RQ.ofO q
    obtain ⟨p, rfl, hp, _⟩ := Rp.hnd r
    obtain ⟨C, dx, fs, v, P1, h1, h2, h3, h4, r1, _, _⟩ := fld_q (X := X) wr fl hc (c.grow g) (E.grow g) hp e
    have e1 := Emx.em a r1
    subst e1
    exact ⟨p, C, dx, fs, v, rfl, h1, h2, h3, h4, q v S1 H1 g r1⟩) fun _ z => z⟩
theorem mb_fld [Fla en] (wr : Wr sh l (encW : ω → D) gw) (fl : Fld cs f en get) (hc : ∀ c ∈ cs, ClA X.K f c) (ho : PE X o (tME X.K l W eH fo)) (hb : attributeBase o f X.env (eval o X.env) = eval o X.env := by rfl) : PE X (.Attribute o f pos) (tMB X.K l W en (fldF gw get fo)) := PE.imp (pe_fld ho hb) fun σ H Q ⟨S, t, P, c, E, q⟩ =>
  ⟨S, t, P, c, E, q.bind.imp (fun h q v S1 H1 g r => by
    obtain ⟨a, e, q⟩ := RQ.ofO q
    obtain ⟨p, rfl, hp, _⟩ := Rp.hnd r
    obtain ⟨C, dx, fs, v, P1, h1, h2, h3, h4, r1, k, _⟩ := fld_q (X := X) wr fl hc (c.grow g) (E.grow g) hp e
    exact ⟨p, C, dx, fs, v, rfl, h1, h2, h3, h4, q v S1 H1 P1 g r1 (Fla.fl a g.sub.le r1) k⟩) fun _ z => z⟩
/-- lent as it is: whatever it holds is shared -/
theorem me_fldR (wr : Wr true l (encW : ω → D) gw) (fl : Fld cs f en get) (hc : ∀ c ∈ cs, ClA X.K f c) (ho : PE X o (tME X.K l W eH fo)) (hb : attributeBase o f X.env (eval o X.env) = eval o X.env := by rfl) : PE X (.Attribute o f pos) (tME X.K l W en (fldF gw get fo)) := PE.imp (pe_fld ho hb) fun σ H Q ⟨S, t, P, c, E, q⟩ =>
  ⟨S, t, P, c, E, q.bind.imp (fun h q v S1 H1 g r => by
    obtain ⟨a, e, q⟩ := RQ.ofO q
    obtain ⟨p, rfl, hp, _⟩ := Rp.hnd r
    obtain ⟨C, dx, fs, v, P1, h1, h2, h3, h4, r1, _, z⟩ := fld_q (X := X) wr fl hc (c.grow g) (E.grow g) hp e
    have e1 := z rfl
    subst e1
    exact ⟨p, C, dx, fs, v, rfl, h1, h2, h3, h4, q v S1 H1 g r1⟩) fun _ z => z⟩
end
/-! the world, one thing apart -/
section
variable {ω T α β : Type} {K : PySem.W.Frag} {S S' : Sh} {H H' : Hp} {σ : L2.St} {l : Lay T} {P P' : FP} {τ : TL}
theorem WOk.take {ew : ω → D} {w : List ω} {i : Nat} {o : ω} (h : WOk K S H ew w P) (hi : w[i]? = some o) : ∃ a Pi Pr, S.mu i = some a ∧ Rp K S.tup H (.ref a) (ew o) Pi ∧ Pi a ∧ Disj Pi Pr ∧ (P = fun x => Pi x ∨ Pr x) ∧
    ∀ (S' : Sh) (H' : Hp) (o' : ω) (Pi' : FP), SL S S' → S'.mu = S.mu → (∀ x o, Pr x → NT o → H x = some o → H' x = some o) → Rp K S'.tup H' (.ref a) (ew o') Pi' → Pi' a → Disj Pi' Pr → WOk K S' H' ew (w.set i o') (fun x => Pi' x ∨ Pr x) := by
  obtain ⟨Ps, h1, h2, h3, h4⟩ := h.ex
  obtain ⟨a, ha, r, hp⟩ := h1 i o hi
  have hil : i < w.length := (List.getElem?_eq_some_iff.mp hi).1
  refine ⟨a, Ps i, fun x => ∃ j, j ≠ i ∧ Ps j x, ha, r, hp, fun x z ⟨j, ne, y⟩ => h3 i j (Ne.symm ne) x z y, fp_eq fun x => ?_, fun S' H' o' Pi' s m kp r' hp' dj => ⟨fun j => if j = i then Pi' else Ps j, fun j u e => ?_, fun j hj => ?_, fun j k ne x => ?_, fun x => ?_⟩⟩
  · rw [h4]
    constructor
    · rintro ⟨j, y⟩
      by_cases e : j = i
      · exact .inl (e ▸ y)
      · exact .inr ⟨j, e, y⟩
    · rintro (y | ⟨j, _, y⟩)
      · exact ⟨i, y⟩
      · exact ⟨j, y⟩
  · by_cases e2 : j = i
    · subst e2
      rw [List.getElem?_set_self hil] at e
      cases e
      dsimp only
      rw [if_pos rfl, m]
      exact ⟨a, ha, r', hp'⟩
    · rw [List.getElem?_set_ne (Ne.symm e2)] at e
      dsimp only
      rw [if_neg e2, m]
      obtain ⟨b, hb, rb, pb⟩ := h1 j u e
      exact ⟨b, hb, rb.frame s.tup fun x o hx => kp x o ⟨j, e2, hx⟩, pb⟩
  · rw [List.length_set] at hj
    have ne : j ≠ i := by omega
    have e : (fun j => if j = i then Pi' else Ps j) j = Ps j := if_neg ne
    rw [e, m]
    exact h2 j hj
  · intro y z
    by_cases e1 : j = i
    · rw [if_pos e1] at y
      rw [if_neg (by omega)] at z
      exact dj x y ⟨k, by omega, z⟩
    · rw [if_neg e1] at y
      by_cases e2 : k = i
      · rw [if_pos e2] at z
        exact dj x z ⟨j, e1, y⟩
      · rw [if_neg e2] at z
        exact h3 j k ne x y z
  · constructor
    · rintro (y | ⟨j, ne, y⟩)
      · exact ⟨i, by dsimp only; rw [if_pos rfl]; exact y⟩
      · exact ⟨j, by dsimp only; rw [if_neg ne]; exact y⟩
    · rintro ⟨j, y⟩
      by_cases e : j = i
      · rw [if_pos e] at y; exact .inl y
      · rw [if_neg e] at y; exact .inr ⟨j, e, y⟩
/-- of a thing of the world all but tuples is owned; of a name's own what it holds is shared -/
def selS (b : Bool) (S : Sh) : Sh := if b = true then S.tup else S
/-- a part of what is owned, apart; what comes when it is put back changed -/
def Foc (b : Bool) (K : PySem.W.Frag) (l : Lay T) (S : Sh) (H : Hp) (σ : L2.St) (P : FP) (p : Addr) (en : α → D) (a : α) (set : α → T) : Prop :=
  ∃ P1 Pr, P1 p ∧ (b = false → ∀ x, P1 x → x = p) ∧ Rp K (selS b S) H (.ref p) (en a) P1 ∧ Disj P1 Pr ∧ (P = fun x => P1 x ∨ Pr x) ∧ ∀ (S' : Sh) (H' : Hp) (a' : α) (P1' : FP), SL S S' → S'.mu = S.mu → (∀ x o, Pr x → NT o → H x = some o → H' x = some o) → P1' p → (b = false → ∀ x, P1' x → x = p) → Rp K (selS b S') H' (.ref p) (en a') P1' → Disj P1' Pr → Env K S' H' σ l (set a') (fun x => P1' x ∨ Pr x)
theorem foc_obj {ew : ω → D} {gw : T → List ω} {pw : T → List ω → T} {t : T} {i : Nat} {o : ω} {a : Addr} (wl : Wl l ew gw pw) (E : Env K S H σ l t P) (hi : (gw t)[i]? = some o) (ha : S.mu i = some a) : Foc true K l S H σ P a ew o (fun o' => pw t ((gw t).set i o')) := by
  obtain ⟨Ps, Pw, hw, d, rfl, bk⟩ := wl.split E
  obtain ⟨b, Pi, Pr, hb, r, hp, d2, rfl, tk⟩ := hw.take hi
  rw [ha] at hb
  cases hb
  refine ⟨Pi, fun x => Ps x ∨ Pr x, hp, (fun z => nomatch z), r, fun x y z => z.elim (fun z => d x z (.inl y)) (d2 x y), fp_eq fun x => ?_, fun S' H' o' P1' s m kp hp' _ r' dj => ?_⟩
  · exact ⟨fun z => z.elim (fun z => .inr (.inl z)) fun z => z.elim .inl fun z => .inr (.inr z), fun z => z.elim (fun z => .inr (.inl z)) fun z => z.elim .inl fun z => .inr (.inr z)⟩
  · have h1 := tk S' H' o' P1' s m (fun x o hx => kp x o (.inr hx)) r' hp' fun x y z => dj x y (.inr z)
    have h2 := bk S' H' _ _ s (fun x o hx => kp x o (.inl hx)) h1 fun x y z => z.elim (fun z => dj x z (.inl y)) fun z => d x y (.inr z)
    have e : (fun x => Ps x ∨ (P1' x ∨ Pr x)) = fun x => P1' x ∨ (Ps x ∨ Pr x) := fp_eq fun x => ⟨fun z => z.elim (fun z => .inr (.inl z)) fun z => z.elim .inl fun z => .inr (.inr z), fun z => z.elim (fun z => .inr (.inl z)) fun z => z.elim .inl fun z => .inr (.inr z)⟩
    rw [← e]
    exact h2
theorem Rp.objO {p : Addr} {c : Str} {ns : List Str} {es : List D} (r : Rp K S H (.ref p) (.obj c ns es) P) (hp : P p) : ∃ dx ws P1, H p = some (.ins (He.ga K c) dx (ns.zip ws)) ∧ ns.length = ws.length ∧ Rep K S H ws es P1 ∧ ¬ P1 p ∧ P = fun x => x = p ∨ P1 x := by
  cases r with
  | obj h l r1 z n1 n2 d =>
    obtain ⟨_, rfl⟩ := z.nilP
    exact ⟨_, _, _, h, l, r1, n1, fp_eq fun x => by simp⟩
  | sho h l r1 z =>
    obtain ⟨_, rfl⟩ := z.nilP
    exact hp.elim
theorem Rp.mkO {p dx : Addr} {c : Str} {ns : List Str} {ws : List V} {es : List D} {P1 : FP} (h : H p = some (.ins (He.ga K c) dx (ns.zip ws))) (l : ns.length = ws.length) (r : Rep K S H ws es P1) (n : ¬ P1 p) : Rp K S H (.ref p) (.obj c ns es) (fun x => x = p ∨ P1 x) :=
  (Rep.obj h l r .nil n (fun z => z) fun _ _ z => z).cast fun x => by simp
end
section
variable {X : Cx} {ω T R α β : Type} [Wd ω] {l : Lay T} {n : Nat} {W : WX} {mr m : Md} {er : R → D} {o e : Expr} {en : α → D} {gw : T → List ω} {pw : T → List ω → T} {set : ω → α → Option ω} {cs : List Str} {f : Str} {fo : T → Res Hn} {fe : T → OutX T α} {pos pos' : Pos}
theorem putF_len (f : Str) (y : V) : ∀ fs : List (Str × V), (L2.putF f y fs).length ≤ fs.length + 1
  | [] => Nat.le_refl _
  | (g, x) :: r => by
    unfold L2.putF
    split
    · simp
    · have := putF_len f y r
      simp
      omega
theorem nsOf_le : ∀ fs : List (Str × Option D), (nsOf fs).length ≤ fs.length
  | [] => Nat.le_refl _
  | (g, none) :: r => Nat.le_succ_of_le (nsOf_le r)
  | (g, some d) :: r => Nat.succ_le_succ (nsOf_le r)
theorem ms_sto [mv : Mvs m en] (wl : Wl l (encW : ω → D) gw pw) (fl : FldS cs f en set) (hc : ∀ c ∈ cs, ClA X.K f c) (ho : PE X o (tME X.K l W eH fo)) (he : PE X e (tMX X.K l W m en fe)) (hs : swapsWith e (some (.Attribute o f pos')) pos.line X.env = pure false := by rfl) : MS X l n W mr er (.Assign [.Attribute o f pos'] e pos) (stoF gw pw set fo fe) := PS.imp (ps_fld ho he hs) fun D σ H ⟨S, t, P, c, E, hl, q⟩ =>
  ⟨S, t, P, c, E, andX_v hl q fun a t1 q y S1 H1 P1 Pv g E1 ry oy d => by
    refine ⟨S1, t1, P1, g.cfg.mono fun x z => .inl z, E1, ?_⟩
    cases hf : fo t1 with
    | stuck => simp only [hf] at q; exact q
    | ex x => simp only [hf] at q; exact fun S' H' cls d2 g2 r => q cls d2 σ S' H' P1 (g.trans ((g2.grw g.cfg).less fun x z => .inl z)) (E1.grow g2) hl r
    | ok h =>
      simp only [hf] at q
      intro x S2 H2 g2 rx
      obtain ⟨p, rfl, hp, _⟩ := Rp.hnd rx
      cases hb : (gw t1)[h.i]?.bind fun o => set o a with
      | none => simp only [hb] at q; exact q.elim
      | some o' =>
        simp only [hb] at q
        obtain ⟨ob, h1, h2⟩ := Option.bind_eq_some_iff.mp hb
        obtain ⟨cn, fs, ek, hcs, hst, hle, ek'⟩ := fl.at_ h2
        have c2 := g.cfg.grow g2
        have E2 := E1.grow g2
        obtain ⟨Po, Pr, hpo, _, ro, dj, rfl, bk⟩ := foc_obj wl E2 h1 hp
        replace ro : Rp X.K S2.tup H2 (.ref p) (encW ob) Po := ro
        unfold encW at ro
        rw [ek] at ro
        obtain ⟨dx, ws, Pf, hH, hlen, rf, nf, rfl⟩ := Rp.objO ro hpo
        have ry2 : Rp X.K S2.tup H2 y (en a) Pv := (mv.mv (S2 := S1.tup) a g.cfg.sub.le ry oy (fun x hx => g.cfg.sep x (.inr hx)) (fun p ws h => Sh.tup_sq h) fun _ _ e => e).frame g2.s.tup fun x o _ n z => g2.h.at_ x o n z
        have dv : Disj Pv (fun x => (x = p ∨ Pf x) ∨ Pr x) := fun x z y => d x y z
        obtain ⟨ws', P', e1, e2, e3⟩ := zip_put ry2 rf hst fun x z y => dv x z (.inl (.inr y))
        refine ⟨p, _, dx, _, rfl, hH, (hc cn hcs).cl, (hc cn hcs).na, ?_, ?_⟩
        · rw [List.length_zip]
          have := nsOf_le fs
          omega
        · have np : ¬ P' p := fun z => (e3 p z).elim nf fun z => dv p z (.inl (.inl rfl))
          have pv : ∀ x, P' x → x ≠ p := fun x z e => np (e ▸ z)
          have hH3 : upd H2 p (.ins (He.ga X.K cn) dx (L2.putF f y ((nsOf fs).zip ws))) p = some (.ins (He.ga X.K cn) dx ((nsOf (putO f (en a) fs)).zip ws')) := by rw [upd_same, e1]
          have r3 : Rp X.K S2.tup (upd H2 p (.ins (He.ga X.K cn) dx (L2.putF f y ((nsOf fs).zip ws)))) (.ref p) (encW o') (fun x => x = p ∨ P' x) := by
            unfold encW
            rw [ek']
            refine Rp.mkO hH3 ?_ (e2.frame (SL.refl S2.tup) fun x u hx _ z => by rw [upd_ne (pv x hx)]; exact z) np
            rw [nsOf_len, e2.len]
          have dj' : Disj (fun x => x = p ∨ P' x) Pr := fun x z y => z.elim (fun z => dj x (.inl z) y) fun z => (e3 x z).elim (fun z => dj x (.inr z) y) fun z => dv x z (.inr y)
          have E3 := bk S2 _ o' _ (SL.refl S2) rfl (fun x u hx nt z => by
            rw [upd_ne (fun e => dj x (.inl e) hx)]
            exact z) (.inl rfl) (fun z => nomatch z) r3 dj'
          have gu : Grw l.tabs S2 H2 _ S2 (upd H2 p (.ins (He.ga X.K cn) dx (L2.putF f y ((nsOf fs).zip ws)))) _ := Grw.upd c2 (.inl (.inl (.inl rfl))) hH ⟨(fun _ z => nomatch z), (fun _ z => nomatch z)⟩
          refine q σ S2 _ _ ((g.trans ((g2.grw g.cfg).trans gu)).less fun x z => ?_) E3 hl
          rcases z with (z | z) | z
          · exact .inl (.inl (.inl z))
          · exact (e3 x z).elim (fun z => .inl (.inl (.inr z))) .inr
          · exact .inl (.inr z)⟩
end
end M

namespace M
open Enc (enc)
open PySem PySem.Spec PyProof.Rows L2 W
/-! ### defs that read or write the world -/
structure IniR {ω T α : Type} (j : Nat) (l : Lay T) (ew : ω → D) (ea : α → List D) (ini : α → List ω → T) : Prop where
  ini : ∀ {K : PySem.W.Frag} {S : Sh} {H : Hp} {pre vs : List V} {r : L2.St} {a : α} {w : List ω}, pre.length = j → Rep K S H vs (ea a) Emp → WSh K S H ew w → Env K S H (pre.map some ++ (vs.map some ++ r)) l (ini a w) Emp
theorem IniR.z {ω : Type} {j : Nat} {τ : TL} {ew : ω → D} : IniR j (.rwd τ ew) ew nilD (fun _ w => w) := ⟨fun _ _ h => ⟨h, rfl⟩⟩
theorem IniR.k {ω T α β : Type} {i j : Nat} {m : Md} {en : β → D} {l : Lay T} {ew : ω → D} {ea : α → List D} {ini : α → List ω → T} (h : IniR j l ew ea ini) : IniR j (.cons i m en l) ew ea (fun a w => (none, ini a w)) := ⟨fun hj r q => h.ini hj r q⟩
theorem IniR.s {ω T α β : Type} {j : Nat} {en : β → D} {l : Lay T} {ew : ω → D} {ea : α → List D} {ini : α → List ω → T} (h : IniR (j + 1) l ew ea ini) : IniR j (.cons j .sh en l) ew (consD en ea) (fun x w => (some x.1, ini x.2 w)) := ⟨fun {K S H pre vs r a w} hj q hw => by
  obtain ⟨v, us, rfl, r1, r2⟩ := q.splitE
  refine ⟨v, Emp, Emp, ?_, r1, rfl, ?_, fun _ z => z.elim, (fp_eq fun x => ⟨.inl, fun z => z.elim id id⟩)⟩
  · rw [List.getElem?_append_right (by simp [hj])]
    simp [hj]
  · have := h.ini (pre := pre ++ [v]) (vs := us) (r := r) (by simp [hj]) r2 hw
    simpa using this⟩
structure IniW {ω T α : Type} (j : Nat) (l : Lay T) (ew : ω → D) (ea : α → List D) (ini : α → List ω → T) : Prop where
  ini : ∀ {K : PySem.W.Frag} {S : Sh} {H : Hp} {pre vs : List V} {r : L2.St} {a : α} {w : List ω} {P : FP}, pre.length = j → Rep K S H vs (ea a) Emp → WOk K S H ew w P → Env K S H (pre.map some ++ (vs.map some ++ r)) l (ini a w) P
theorem IniW.z {ω : Type} {j : Nat} {τ : TL} {ew : ω → D} : IniW j (.wld τ ew) ew nilD (fun _ w => w) := ⟨fun _ _ h => h⟩
theorem IniW.k {ω T α β : Type} {i j : Nat} {m : Md} {en : β → D} {l : Lay T} {ew : ω → D} {ea : α → List D} {ini : α → List ω → T} (h : IniW j l ew ea ini) : IniW j (.cons i m en l) ew ea (fun a w => (none, ini a w)) := ⟨fun hj r q => h.ini hj r q⟩
theorem IniW.s {ω T α β : Type} {j : Nat} {en : β → D} {l : Lay T} {ew : ω → D} {ea : α → List D} {ini : α → List ω → T} (h : IniW (j + 1) l ew ea ini) : IniW j (.cons j .sh en l) ew (consD en ea) (fun x w => (some x.1, ini x.2 w)) := ⟨fun {K S H pre vs r a w P} hj q hw => by
  obtain ⟨v, us, rfl, r1, r2⟩ := q.splitE
  refine ⟨v, Emp, P, ?_, r1, rfl, ?_, fun _ z => z.elim, emp_or.symm⟩
  · rw [List.getElem?_append_right (by simp [hj])]
    simp [hj]
  · have := h.ini (pre := pre ++ [v]) (vs := us) (r := r) (by simp [hj]) r2 hw
    simpa using this⟩
section
variable {P : Program} {w : World} {K : PySem.W.Frag} {mg : Str → Option Value} {base : Heap} {ω T α β : Type} {k : Nat} {f : Addr} {fd : FuncData} {x qual : Str} {params : Arguments} {body : List Stmt} {scope : Scope} {dvs : List V} {kws : List (Str × V)} {N ps : List Str} {l : Lay T} {ew : ω → D} {ea : α → List D} {mr : Md} {er : β → D} {F : T → Out T β} {ini : α → List ω → T} {gw : T → List ω} {pw : T → List ω → T}
theorem start_len {vs : List V} (hle : ps.length ≤ N.length) (hv : vs.length = ps.length) : (L2.start N vs).length = N.length := by
  unfold L2.start
  simp only [List.length_append, List.length_map, List.length_replicate]
  omega
theorem scope_le (Sc : FnScope N ps scope) : ps.length ≤ N.length := by
  have := congrArg List.length Sc.pre
  rw [List.length_take] at this
  omega
theorem def_okR {n : Nat} (D : FunD K x qual params body scope dvs kws f fd) (Sc : FnScope N ps scope) (hn : N.length = n) (hi : IniR 0 l ew ea ini) (hl : ∀ a, (ea a).length = ps.length)
    (hb : ∀ (cdv : Value) (A : Around) (outer : List PySem.Env) (s : Shared) (H : Hp) (E : XK), Room k (A.deeper (envOfC qual scope s.heap.objs.size f cdv)) → MSs (cxOf (L2.CX P w) P w K mg base N qual scope f cdv A outer s H E) l n (fun cls d _ H => E cls d H) mr er body F) (hw : l.tabs.w = false := by rfl) :
    FnOk P w K mg base (L2.CX P w) (k + 1) f fd ps (spR K l.tabs ew ea mr er fun a v => endF (F (ini a v))) := by
  refine D.ok Sc (fun vs H Q E ⟨S, a, _, s, _, r, q⟩ => by rw [r.len, hl]) fun cdv A outer s H vs Q E hr ⟨S, a, v, sub, ws, r, q⟩ => ⟨_, hb cdv A outer s H E hr, S, ini a v, Emp, ⟨sub, fun _ z => z.elim, fun _ z => z.elim⟩, ?_, ?_, ?_⟩
  · have := hi.ini (pre := []) (vs := vs) (r := List.replicate (N.length - vs.length) none) rfl r ws
    exact this
  · rw [start_len (scope_le Sc) (by rw [r.len, hl])]; exact hn
  · replace q := endF_q (o := F (ini a v)) q
    revert q
    generalize F (ini a v) = o
    intro q
    have gg : ∀ {S' H' P'}, Grw l.tabs S H Emp S' H' P' → Grow l.tabs S H S' H' := fun g => ⟨g.s, g.mu hw, ⟨fun x o n e => g.keep x o id n e, fun e => (g.free _ e).elim False.elim id⟩, g.cfg.sub, fun x o e => (g.new x o e).elim .inl fun z => z.elim False.elim .inr⟩
    cases o with
    | rt r t => exact fun v σ S' H' P' Pr g E r o d => q v S' H' Pr (gg g) r o fun x e => ⟨(g.fp x (.inr e)).elim False.elim id, g.cfg.sep x (.inr e)⟩
    | ex e t => exact fun cls d σ S' H' P' g E hl x => q S' H' cls d (gg g) x
    | nx t => exact q.elim
    | bk t => exact q.elim
    | ct t => exact q.elim
    | stuck => exact q.elim
theorem def_okRU {n : Nat} {F : T → Out T Unit} (D : FunD K x qual params body scope dvs kws f fd) (Sc : FnScope N ps scope) (hn : N.length = n) (hi : IniR 0 l ew ea ini) (hl : ∀ a, (ea a).length = ps.length)
    (hb : ∀ (cdv : Value) (A : Around) (outer : List PySem.Env) (s : Shared) (H : Hp) (E : XK), Room k (A.deeper (envOfC qual scope s.heap.objs.size f cdv)) → MSs (cxOf (L2.CX P w) P w K mg base N qual scope f cdv A outer s H E) l n (fun cls d _ H => E cls d H) .sh (Enc.enc : Unit → M.D) body F) (hw : l.tabs.w = false := by rfl) :
    FnOk P w K mg base (L2.CX P w) (k + 1) f fd ps (spR K l.tabs ew ea .sh (Enc.enc : Unit → M.D) fun a v => endU (F (ini a v))) := by
  refine D.ok Sc (fun vs H Q E ⟨S, a, _, s, _, r, q⟩ => by rw [r.len, hl]) fun cdv A outer s H vs Q E hr ⟨S, a, v, sub, ws, r, q⟩ => ⟨_, hb cdv A outer s H E hr, S, ini a v, Emp, ⟨sub, fun _ z => z.elim, fun _ z => z.elim⟩, ?_, ?_, ?_⟩
  · have := hi.ini (pre := []) (vs := vs) (r := List.replicate (N.length - vs.length) none) rfl r ws
    exact this
  · rw [start_len (scope_le Sc) (by rw [r.len, hl])]; exact hn
  · replace q := endU_q (o := F (ini a v)) q
    revert q
    generalize F (ini a v) = o
    intro q
    have gg : ∀ {S' H' P'}, Grw l.tabs S H Emp S' H' P' → Grow l.tabs S H S' H' := fun g => ⟨g.s, g.mu hw, ⟨fun x o n e => g.keep x o id n e, fun e => (g.free _ e).elim False.elim id⟩, g.cfg.sub, fun x o e => (g.new x o e).elim .inl fun z => z.elim False.elim .inr⟩
    cases o with
    | rt r t => exact fun v σ S' H' P' Pr g E r o d => q v S' H' Pr (gg g) r o fun x e => ⟨(g.fp x (.inr e)).elim False.elim id, g.cfg.sep x (.inr e)⟩
    | ex e t => exact fun cls d σ S' H' P' g E hl x => q S' H' cls d (gg g) x
    | nx t => exact fun σ S' H' P' g E hl => q .non S' H' Emp (gg g) (Rep.non .nil) rfl fun _ z => z.elim
    | bk t => exact q.elim
    | ct t => exact q.elim
    | stuck => exact q.elim
/-- the world at a def's end -/
theorem wl_end (wl : Wl l ew gw pw) {τ : TL} {S S' : Sh} {H H' : Hp} {σ : L2.St} {t : T} {P P' Pr : FP} (g : Grw τ S H P S' H' (fun x => P' x ∨ Pr x)) (E : Env K S' H' σ l t P') (d : Disj P' Pr) : ∃ Pw, Grw τ S H P S' H' (fun x => Pw x ∨ Pr x) ∧ WOk K S' H' ew (gw t) Pw ∧ Disj Pw Pr := by
  obtain ⟨Ps, Pw, hw, d2, rfl, _⟩ := wl.split E
  exact ⟨Pw, g.less fun x z => z.elim (fun z => .inl (.inr z)) .inr, hw, fun x z => d x (.inr z)⟩
theorem wl_end0 (wl : Wl l ew gw pw) {τ : TL} {S S' : Sh} {H H' : Hp} {σ : L2.St} {t : T} {P P' : FP} (g : Grw τ S H P S' H' P') (E : Env K S' H' σ l t P') : ∃ Pw, Grw τ S H P S' H' Pw ∧ WOk K S' H' ew (gw t) Pw := by
  obtain ⟨Ps, Pw, hw, d2, rfl, _⟩ := wl.split E
  exact ⟨Pw, g.less fun x z => .inr z, hw⟩
theorem def_okW {n : Nat} (wl : Wl l ew gw pw) (D : FunD K x qual params body scope dvs kws f fd) (Sc : FnScope N ps scope) (hn : N.length = n) (hi : IniW 0 l ew ea ini) (hl : ∀ a, (ea a).length = ps.length)
    (hb : ∀ (cdv : Value) (A : Around) (outer : List PySem.Env) (s : Shared) (H : Hp) (E : XK), Room k (A.deeper (envOfC qual scope s.heap.objs.size f cdv)) → MSs (cxOf (L2.CX P w) P w K mg base N qual scope f cdv A outer s H E) l n (fun cls d _ H => E cls d H) mr er body F) :
    FnOk P w K mg base (L2.CX P w) (k + 1) f fd ps (spW K l.tabs ew ea mr er fun a v => endX gw (F (ini a v))) := by
  refine D.ok Sc (fun vs H Q E ⟨S, a, _, _, s, _, r, q⟩ => by rw [r.len, hl]) fun cdv A outer s H vs Q E hr ⟨S, a, v, P0, c, ws, r, q⟩ => ⟨_, hb cdv A outer s H E hr, S, ini a v, P0, c, ?_, ?_, ?_⟩
  · have := hi.ini (pre := []) (vs := vs) (r := List.replicate (N.length - vs.length) none) rfl r ws
    exact this
  · rw [start_len (scope_le Sc) (by rw [r.len, hl])]; exact hn
  · dsimp only at q
    revert q
    generalize F (ini a v) = o
    intro q
    cases o with
    | rt r t =>
        simp only [endX] at q
        intro v σ S' H' P' Pr g E r o d
        obtain ⟨Pw, g2, hw, d2⟩ := wl_end wl g E d
        exact q v S' H' Pw Pr g2 hw r o d2
    | ex e t =>
        simp only [endX] at q
        intro cls d σ S' H' P' g E hl x
        obtain ⟨Pw, g2, hw⟩ := wl_end0 wl g E
        exact q cls d S' H' Pw g2 hw x
    | nx t => simp only [endX] at q
    | bk t => simp only [endX] at q
    | ct t => simp only [endX] at q
    | stuck => simp only [endX] at q
theorem def_okWU {n : Nat} {F : T → Out T Unit} (wl : Wl l ew gw pw) (D : FunD K x qual params body scope dvs kws f fd) (Sc : FnScope N ps scope) (hn : N.length = n) (hi : IniW 0 l ew ea ini) (hl : ∀ a, (ea a).length = ps.length)
    (hb : ∀ (cdv : Value) (A : Around) (outer : List PySem.Env) (s : Shared) (H : Hp) (E : XK), Room k (A.deeper (envOfC qual scope s.heap.objs.size f cdv)) → MSs (cxOf (L2.CX P w) P w K mg base N qual scope f cdv A outer s H E) l n (fun cls d _ H => E cls d H) .sh (Enc.enc : Unit → M.D) body F) :
    FnOk P w K mg base (L2.CX P w) (k + 1) f fd ps (spW K l.tabs ew ea .sh (Enc.enc : Unit → M.D) fun a v => endXU gw (F (ini a v))) := by
  refine D.ok Sc (fun vs H Q E ⟨S, a, _, _, s, _, r, q⟩ => by rw [r.len, hl]) fun cdv A outer s H vs Q E hr ⟨S, a, v, P0, c, ws, r, q⟩ => ⟨_, hb cdv A outer s H E hr, S, ini a v, P0, c, ?_, ?_, ?_⟩
  · have := hi.ini (pre := []) (vs := vs) (r := List.replicate (N.length - vs.length) none) rfl r ws
    exact this
  · rw [start_len (scope_le Sc) (by rw [r.len, hl])]; exact hn
  · dsimp only at q
    revert q
    generalize F (ini a v) = o
    intro q
    cases o with
    | rt r t =>
        simp only [endXU] at q
        intro v σ S' H' P' Pr g E r o d
        obtain ⟨Pw, g2, hw, d2⟩ := wl_end wl g E d
        exact q v S' H' Pw Pr g2 hw r o d2
    | ex e t =>
        simp only [endXU] at q
        intro cls d σ S' H' P' g E hl x
        obtain ⟨Pw, g2, hw⟩ := wl_end0 wl g E
        exact q cls d S' H' Pw g2 hw x
    | nx t =>
        simp only [endXU] at q
        intro σ S' H' P' g E hl
        obtain ⟨Pw, g2, hw⟩ := wl_end0 wl g E
        exact q .non S' H' Pw Emp (by rw [or_emp]; exact g2) hw (Rep.non .nil) rfl fun _ _ z => z
    | bk t => simp only [endXU] at q
    | ct t => simp only [endXU] at q
    | stuck => simp only [endXU] at q
end
/-! ### methods -/
structure MRowS (X : Cx) (m : Str) (E : L2.St → XK) (C : Addr) (sp : Sp) : Prop where
  c : Cls X.K C
  ex : ∃ (f : Addr) (CX : CXT) (k : Nat) (fd : FuncData) (ps : List Str) (sp0 : Sp) (dvs : List V) (ds : List Value), Meth X.K C m f ∧ FnOk X.prog X.w X.K X.mg X.base CX k f fd ps sp0 ∧ Room k X.A ∧ Binds X.K fd ps ds ∧ Vals dvs ds ∧ (∀ σ, PassesAt CX X σ (E σ)) ∧
    ∀ vs H Q E', sp vs H Q E' → sp0 (vs ++ dvs) H Q E'
theorem MRowS.of {X : Cx} {m : Str} {W : WX} {C : Addr} {sp : Sp} {f : Addr} {k : Nat} {fd : FuncData} {ps : List Str} {sp0 : Sp} {dvs : List V} {ds : List Value} (c : Cls X.K C) (hm : Meth X.K C m f) (F : FnOk X.prog X.w X.K X.mg X.base (L2.CX X.prog X.w) k f fd ps sp0) (hr : Room k X.A)
    (hb : Binds X.K fd ps ds) (hd : Vals dvs ds) (tk : Takes X W) (h : ∀ {vs H Q E'}, sp vs H Q E' → sp0 (vs ++ dvs) H Q E') : MRowS X m (WE W) C sp := ⟨c, f, _, k, fd, ps, sp0, dvs, ds, hm, F, hr, hb, hd, fun σ => passAt tk σ, fun _ _ _ _ => h⟩
def tPolyS (X : Cx) (m : Str) (E : L2.St → XK) (ta : TE) (t : TA) : TE := fun σ H Q => ta σ H fun x H1 => ∃ (C : Addr) (sp : Sp) (p dx : Addr) (fs : List (Str × V)), x = .ref p ∧ H1 p = some (.ins C dx fs) ∧ fs.lookup m = none ∧ MRowS X m E C sp ∧ t σ H1 fun vs H2 => sp (x :: vs) H2 Q (E σ)
theorem pe_methS2 {X : Cx} {E : L2.St → XK} {m : Str} {o : Expr} {ta : TE} {e : Expr} {es : List Expr} {t : TA} {pos apos : Pos} {pl : Sem Bool} (he : PE X o ta) (ha : PA X (e :: es) t)
    (hst : starEach (e :: es) X.env = (false, eval e X.env) :: starEach es X.env := by rfl) (hpl : (backTo pos (starEach es X.env)).any (·.1) = false := by rfl)
    (ht : eval (.Call (.Attribute o m apos) (e :: es) [] pos) X.env = (do
      let ov ← eval o X.env
      standAt apos.atName
      let (f, first) ← holding [ov] (getMethod ov m pl)
      callWith pos f first (backTo pos (starEach (e :: es) X.env)) (backToKw pos (keywordEach [] X.env))) := by rfl) :
    PE X (.Call (.Attribute o m apos) (e :: es) [] pos) (tPolyS X m E ta t) := by
  refine ⟨fun pins s σ H Q I h => ?_⟩
  refine PySem.W.methodCall_KW (pl := pl) (thn (he.run pins s σ H _ I h) fun u s1 ⟨x, H1, I1, rx, C, sp, a, dx, fs, ex, ea, l, R, q⟩ => ?_) ht
  subst ex
  obtain rfl : u = Value.ref a := rx
  obtain ⟨c, f, CX, k, fd, ps, sp0, dvs, ds, hm, F, hr, hb, hd, hx, hs⟩ := R
  refine getmeth_ok I1 ea c hm l ?_
  refine PySem.W.callWith_K (first := [.ref a]) (h₀ := X.base) I.ok.mod.kin hm.kp (thn (ha.run pos pins s1 σ H1 _ I1 q) fun us s2 ⟨vs, H2, I2, r, q2⟩ => ⟨I2.kIn, ?_⟩) hst hpl
  exact run_fnSD (us := .ref a :: us) (vs := .ref a :: vs) F hr hb hd (hx σ) I2 (.cons rfl r) (hs _ _ _ _ q2)
theorem pe_methS20 {X : Cx} {E : L2.St → XK} {m : Str} {o : Expr} {ta : TE} {pos apos : Pos} {pl : Sem Bool} (he : PE X o ta)
    (ht : eval (.Call (.Attribute o m apos) [] [] pos) X.env = (do
      let ov ← eval o X.env
      standAt apos.atName
      let (f, first) ← holding [ov] (getMethod ov m pl)
      callWith pos f first (backTo pos (starEach [] X.env)) (backToKw pos (keywordEach [] X.env))) := by rfl) :
    PE X (.Call (.Attribute o m apos) [] [] pos) (tPolyS X m E ta tNil) := by
  refine ⟨fun pins s σ H Q I h => ?_⟩
  refine PySem.W.methodCall_KW (pl := pl) (thn (he.run pins s σ H _ I h) fun u s1 ⟨x, H1, I1, rx, C, sp, a, dx, fs, ex, ea, l, R, q⟩ => ?_) ht
  subst ex
  obtain rfl : u = Value.ref a := rx
  obtain ⟨c, f, CX, k, fd, ps, sp0, dvs, ds, hm, F, hr, hb, hd, hx, hs⟩ := R
  refine getmeth_ok I1 ea c hm l ?_
  exact PySem.W.callWith_K0 (first := [.ref a]) I1.kIn hm.kp (run_fnSD (us := [.ref a]) (vs := [.ref a]) F hr hb hd (hx σ) I1 (.cons rfl .nil) (hs _ _ _ _ q))
/-- C.m(self, ..) -/
theorem pe_clsfnSD {X : Cx} {CX : CXT} {k : Nat} {f C : Addr} {fd : FuncData} {ps : List Str} {sp : Sp} {dvs : List V} {ds : List Value} {E : L2.St → XK} {x m : Str} {p pos apos : Pos} {e : Expr} {es : List Expr} {t : TA} {pl : Sem Bool} (c : ClsFn X.K C m f)
    (F : FnOk X.prog X.w X.K X.mg X.base CX k f fd ps sp) (hr : Room k X.A) (hg : Gl X x) (hm : X.mg x = some (.ref C)) (hb : Binds X.K fd ps ds) (hd : Vals dvs ds) (hx : ∀ σ, PassesAt CX X σ (E σ))
    (ha : PA X (e :: es) t) (hdb : (x == ("__debug__" : Str)) = false := by decide) (hst : starEach (e :: es) X.env = (false, eval e X.env) :: starEach es X.env := by rfl) (hpl : (backTo pos (starEach es X.env)).any (·.1) = false := by rfl)
    (ht : eval (.Call (.Attribute (.Name x p) m apos) (e :: es) [] pos) X.env = (do
      let ov ← eval (.Name x p) X.env
      standAt apos.atName
      let (f, first) ← holding [ov] (getMethod ov m pl)
      callWith pos f first (backTo pos (starEach (e :: es) X.env)) (backToKw pos (keywordEach [] X.env))) := by rfl) :
    PE X (.Call (.Attribute (.Name x p) m apos) (e :: es) [] pos) (tCallSD sp dvs E t) := by
  refine ⟨fun pins s σ H Q I h => ?_⟩
  refine PySem.W.methodCall_KW (pl := pl) (ld_glob I hg hm ?_ hdb) ht
  refine PySem.W.method_cls I.kIn c.rd.ga ?_
  refine PySem.W.cls_value I.kIn c.rd.rd c.at_ rfl ?_
  have I1 := I.tok (s.toks + 1)
  refine PySem.W.callWith_K (h₀ := X.base) (first := []) I.ok.mod.kin c.kp (thn (ha.run pos pins _ σ H _ I1 h) fun us s1 ⟨vs, H1, I2, r, q⟩ => ⟨I2.kIn, ?_⟩) hst hpl
  exact run_fnSD F hr hb hd (hx σ) I2 r q
/-! ### new things -/
theorem run_makeSD {X : Cx} {CX : CXT} {k : Nat} {f C : Addr} {fd : FuncData} {ps : List Str} {sp : Sp} {dvs : List V} {ds : List Value} {E : L2.St → XK} {pins : List (Addr × Obj)} {σ : L2.St} {H : Hp} {s : Shared} {Q : VK} {us : List Value} {vs : List V} (MK : Mk X.K C f) (F : FnOk X.prog X.w X.K X.mg X.base CX k f fd ps sp) (hr : Room (k + 1) X.A) (hb : Binds X.K fd ps ds) (hd : Vals dvs ds)
    (hx : PassesAt CX X σ (E σ)) (I : Inv X pins σ H s) (r : Vals vs us)
    (h : ∀ x dx, H x = none → H dx = none → dx ≠ x → sp (.ref x :: (vs ++ dvs)) (upd (upd H dx (.own x)) x (.ins C dx [])) (fun v H2 => v = .non ∧ Q (.ref x) H2) (E σ)) :
    wpAny (model X.prog X.w) X.A (call (.ref C) us) (EP X pins σ Q) X.xe s := by
  have hq := h (s.heap.objs.size + 1) s.heap.objs.size (I.hok.fresh (Nat.le_succ _)) (I.hok.fresh (Nat.le_refl _)) (Nat.ne_of_lt (Nat.lt_succ_self _))
  have I2 := Inv.made (C := C) I
  have r2 : Vals (V.ref (s.heap.objs.size + 1) :: (vs ++ dvs)) (Value.ref (s.heap.objs.size + 1) :: (us ++ ds)) := .cons rfl (r.append hd)
  have hl : (Value.ref (s.heap.objs.size + 1) :: us ++ ds).length = ps.length := by
    have e := r2.length
    rw [F.len _ _ _ _ hq] at e
    exact e.symm
  refine wpAny_call (make_map (f := f) I.kIn MK.makes MK.init (beq_iff_eq.mp MK.fn) (codeAny_mono (F.run _ X.stack _ _ ⟨Value.ref (s.heap.objs.size + 1) :: us, []⟩ (Value.ref (s.heap.objs.size + 1) :: (us ++ ds)) _ _ (E σ) (hr.make C us [])
    (I2.env0.make C us []) (hb _ (Value.ref (s.heap.objs.size + 1) :: us) I2.kIn hl) r2 hq) fun r s' hq' => ?_))
  cases r with
  | error e => exact hx pins _ _ e s' I2 hq'
  | ok fl =>
    cases fl with
    | ret u =>
      obtain ⟨v, H', I3, rv, ev, q3⟩ := I2.after hq'
      subst ev
      exact ⟨rv, ⟨V.ref (s.heap.objs.size + 1), H', I3, rfl, q3⟩⟩
    | next => exact False.elim hq'
    | brk => exact False.elim hq'
    | cont => exact False.elim hq'
def tMakeSD (C : Addr) (sp : Sp) (dvs : List V) (E : L2.St → XK) (t : TA) : TE := fun σ H Q => t σ H fun vs H1 => ∀ x dx, H1 x = none → H1 dx = none → dx ≠ x →
  sp (.ref x :: (vs ++ dvs)) (upd (upd H1 dx (.own x)) x (.ins C dx [])) (fun v H2 => v = .non ∧ Q (.ref x) H2) (E σ)
section
variable {X : Cx} {CX : CXT} {k : Nat} {f C : Addr} {fd : FuncData} {ps : List Str} {sp : Sp} {dvs : List V} {ds : List Value} {E : L2.St → XK} {x : Str} {e : Expr} {es : List Expr} {t : TA} {p pos : Pos}
theorem pe_makeSD (MK : Mk X.K C f) (F : FnOk X.prog X.w X.K X.mg X.base CX k f fd ps sp) (hr : Room (k + 1) X.A) (hg : Gl X x) (hm : X.mg x = some (.ref C)) (hb : Binds X.K fd ps ds) (hd : Vals dvs ds) (hx : ∀ σ, PassesAt CX X σ (E σ))
    (ha : PA X (e :: es) t) (hdb : (x == ("__debug__" : Str)) = false := by decide) (he : starEach (e :: es) X.env = (false, eval e X.env) :: starEach es X.env := by rfl) (hpl : (backTo pos (starEach es X.env)).any (·.1) = false := by rfl) :
    PE X (.Call (.Name x p) (e :: es) [] pos) (tMakeSD C sp dvs E t) := by
  refine ⟨fun pins s σ H Q I h => ?_⟩
  refine wpAny_Call_Name_kw (ld_glob I hg hm ?_ hdb)
  refine PySem.W.callWith_K (h₀ := X.base) I.ok.mod.kin MK.kp (thn (ha.run pos pins s σ H _ I h) fun us s1 ⟨vs, H1, I1, r, q⟩ => ⟨I1.kIn, ?_⟩) he hpl
  exact run_makeSD MK F hr hb hd (hx σ) I1 r q
theorem pe_makeSD0 (MK : Mk X.K C f) (F : FnOk X.prog X.w X.K X.mg X.base CX k f fd ps sp) (hr : Room (k + 1) X.A) (hg : Gl X x) (hm : X.mg x = some (.ref C)) (hb : Binds X.K fd ps ds) (hd : Vals dvs ds) (hx : ∀ σ, PassesAt CX X σ (E σ))
    (hdb : (x == ("__debug__" : Str)) = false := by decide) : PE X (.Call (.Name x p) [] [] pos) (tMakeSD C sp dvs E tNil) := by
  refine ⟨fun pins s σ H Q I h => ?_⟩
  refine wpAny_Call_Name_kw (ld_glob I hg hm ?_ hdb)
  exact PySem.W.callWith_K0 I.kIn MK.kp (run_makeSD (us := []) MK F hr hb hd (hx σ) I .nil h)
end
section
variable {X : Cx} {ω T α β : Type} [Wd ω] {l : Lay T} {W : WX} {e o : Expr} {es : List Expr} {gw : T → List ω} {pw : T → List ω → T} {ea : α → List D} {er : β → D} {mr : Md} {m : Str} {fo : T → OutX T Hn} {ga : T → OutX T α} {pos apos p : Pos} {x : Str} {sh : Bool}
/-- no field of this name -/
abbrev NoFld (ω : Type) [Wd ω] (m : Str) : Prop := ∀ (o : ω) c fs, Wd.kd o = .obj c fs → fs.lookup m = none
theorem zip_none {m : Str} : ∀ {fs : List (Str × Option D)} {ws : List V}, fs.lookup m = none → ((nsOf fs).zip ws).lookup m = none
  | [], ws, _ => rfl
  | (g, none) :: r, ws, h => by
    rw [List.lookup_cons] at h
    split at h
    · cases h
    · exact zip_none (fs := r) h
  | (g, some d) :: r, [], h => by
    show List.lookup m ((g :: nsOf r).zip []) = none
    rw [List.zip_nil_right]
    rfl
  | (g, some d) :: r, w :: ws, h => by
    rw [List.lookup_cons] at h
    show List.lookup m ((g, w) :: (nsOf r).zip ws) = none
    rw [List.lookup_cons]
    split at h
    · cases h
    · exact zip_none (fs := r) h
/-- the thing of a handle, its class -/
theorem at_row {S : Sh} {H : Hp} {σ : L2.St} {t : T} {P : FP} {ρ : Type} {rows : List (Str × ρ)} {h : Hn} {F : ρ} {q : Addr} (wr : Wr sh l (encW : ω → D) gw) (nf : NoFld ω m) (sub : Same S H) (E : Env X.K S H σ l t P) (hp : S.mu h.i = some q) (e : rowOf rows (gw t) h = some F) :
    ∃ c dx fs, rows.lookup c = some F ∧ H q = some (.ins (He.ga X.K c) dx fs) ∧ fs.lookup m = none := by
  unfold rowOf at e
  obtain ⟨c, e1, e2⟩ := Option.bind_eq_some_iff.mp e
  obtain ⟨ob, e3, e4⟩ := Option.bind_eq_some_iff.mp e1
  obtain ⟨a, P1, ha, r, _⟩ := wr.rd E e3
  rw [hp] at ha
  cases ha
  unfold clsW at e4
  split at e4
  · rename_i c' fs ek
    cases e4
    obtain ⟨q', dx, ws, P2, e5, hH, _⟩ := Rp.objW sub r ek
    cases e5
    exact ⟨c, dx, _, e2, hH, zip_none (nf ob c fs ek)⟩
  · cases e4
theorem meth_q {rows : List (Str × (Hn × α → List ω → OutX (List ω) β))} (wl : Wl l (encW : ω → D) gw pw) (wr : Wr false l (encW : ω → D) gw) (nf : NoFld ω m) (R : ∀ c F, rows.lookup c = some F → MRowS X m (WE W) (He.ga X.K c) (spW X.K l.tabs encW (consD eH ea) mr er F)) (σ : L2.St) (H : Hp) (Q : VK) :
    tMX X.K l W mr er (methX gw pw rows fo ga) σ H Q → tPolyS X m (WE W) (tMX X.K l W .sh eH fo) (tMXA X.K l W ea ga) σ H Q := fun ⟨S, t, P, c, E, q⟩ => ⟨S, t, P, c, E, by
  unfold methX OutX.bind at q
  cases hf : fo t with
  | ex x t1 => rw [hf] at q; exact q
  | stuck => rw [hf] at q; exact q
  | ok h t1 =>
    simp only [hf] at q
    intro v S1 H1 P1 Pv g E1 r o d
    have o : Pv = Emp := o
    subst o
    have g := g.orE
    obtain ⟨a, rfl, hp, _⟩ := Rp.hnd r
    cases hr : rowOf rows (gw t1) h with
    | none => simp only [hr] at q; exact q.elim
    | some F =>
      simp only [hr] at q
      obtain ⟨cn, dx, fs, h1, h2, h3⟩ := at_row (X := X) wr nf g.cfg.sub.le E1 hp hr
      refine ⟨_, _, a, dx, fs, rfl, h2, h3, R cn F h1, S1, t1, P1, g.cfg, E1, ?_⟩
      unfold callX OutX.bind at q
      cases hg : ga t1 with
      | ex x t2 => rw [hg] at q; exact XE.trans q g
      | stuck => rw [hg] at q; exact q
      | ok b t2 =>
        simp only [hg] at q
        intro vs S2 H2 P2 g2 E2 r2
        have rh : Rp X.K S2 H2 (.ref a) (eH h) Emp := r.frame g2.s fun _ _ z => z.elim
        exact spW_q wl (a := (h, b)) g2.cfg E2 (rh.joinE r2) (XV.trans (XV.trans q g) g2)⟩
theorem mx_meth {rows : List (Str × (Hn × α → List ω → OutX (List ω) β))} (wl : Wl l (encW : ω → D) gw pw) (wr : Wr false l (encW : ω → D) gw) (nf : NoFld ω m) (R : ∀ c F, rows.lookup c = some F → MRowS X m (WE W) (He.ga X.K c) (spW X.K l.tabs encW (consD eH ea) mr er F)) (he : PE X o (tMX X.K l W .sh eH fo)) (ha : PA X (e :: es) (tMXA X.K l W ea ga)) {pl : Sem Bool}
    (hst : starEach (e :: es) X.env = (false, eval e X.env) :: starEach es X.env := by rfl) (hpl : (backTo pos (starEach es X.env)).any (·.1) = false := by rfl)
    (ht : eval (.Call (.Attribute o m apos) (e :: es) [] pos) X.env = (do
      let ov ← eval o X.env
      standAt apos.atName
      let (f, first) ← holding [ov] (getMethod ov m pl)
      callWith pos f first (backTo pos (starEach (e :: es) X.env)) (backToKw pos (keywordEach [] X.env))) := by rfl) : PE X (.Call (.Attribute o m apos) (e :: es) [] pos) (tMX X.K l W mr er (methX gw pw rows fo ga)) := PE.imp (pe_methS2 he ha hst hpl ht) (meth_q wl wr nf R)
theorem xa_nil (σ : L2.St) (H : Hp) (Q : List V → Hp → Prop) : tMXA X.K l W nilD (fun t => .ok () t) σ H Q → tNil σ H Q := fun ⟨S, t, P, c, E, q⟩ => q [] S H P (.refl c) E .nil
theorem mx_meth0 {rows : List (Str × (Hn × Unit → List ω → OutX (List ω) β))} (wl : Wl l (encW : ω → D) gw pw) (wr : Wr false l (encW : ω → D) gw) (nf : NoFld ω m) (R : ∀ c F, rows.lookup c = some F → MRowS X m (WE W) (He.ga X.K c) (spW X.K l.tabs encW (consD eH nilD) mr er F)) (he : PE X o (tMX X.K l W .sh eH fo)) {pl : Sem Bool}
    (ht : eval (.Call (.Attribute o m apos) [] [] pos) X.env = (do
      let ov ← eval o X.env
      standAt apos.atName
      let (f, first) ← holding [ov] (getMethod ov m pl)
      callWith pos f first (backTo pos (starEach [] X.env)) (backToKw pos (keywordEach [] X.env))) := by rfl) : PE X (.Call (.Attribute o m apos) [] [] pos) (tMX X.K l W mr er (methX gw pw rows fo (fun t => .ok () t))) := PE.imp (pe_methS20 (pl := pl) he ht) fun σ H Q z => by
  obtain ⟨S, t, P, c, E, q⟩ := meth_q wl wr nf R σ H Q z
  refine ⟨S, t, P, c, E, ?_⟩
  revert q
  cases fo t with
  | ok h t1 =>
      intro q v S' H' P' P1 g E' r o d
      obtain ⟨C, sp, p, dx, fs, h1, h2, h3, h4, h5⟩ := q v S' H' P' P1 g E' r o d
      exact ⟨C, sp, p, dx, fs, h1, h2, h3, h4, xa_nil (X := X) (l := l) (W := W) σ H' _ h5⟩
  | ex e t1 => exact id
  | stuck => exact id
end
end M

namespace M
open Enc (enc)
open PySem PySem.Spec PyProof.Rows L2 W
/-! ### readers' methods, C.m(self, ..), new things, isinstance -/
section
variable {X : Cx} {ω T α α' β : Type} [Wd ω] {l : Lay T} {W : WX} {e o : Expr} {es : List Expr} {gw : T → List ω} {pw : T → List ω → T} {ea : α → List D} {ea' : α' → List D} {er : β → D} {mr : Md} {m : Str} {fo : T → Res Hn} {ga : T → Res α} {pos apos p : Pos} {x : Str} {sh : Bool} {k : Nat} {f C : Addr} {fd : FuncData} {ps : List Str} {dvs : List V} {ds : List Value} {dd : List D}
/-- what a reader's answer is, seen from the caller -/
theorem spR_q [mv : Mvs mr er] {fm : α → List ω → Res β} (wv : Wv l (encW : ω → D) gw) {S : Sh} {H : Hp} {σ : L2.St} {t : T} {P : FP} {vs : List V} {a : α} {Q : VK} (c : Cfg l.tabs S H P) (E : Env X.K S H σ l t P) (r : Rep X.K S H vs (ea a) Emp)
    (q : RQ (fm a (gw t)) (fun r => ∀ v S' H' P1, Grow l.tabs S H S' H' → Rp X.K S' H' v (er r) P1 → mr.ok v P1 → (∀ x, P1 x → H x = none ∧ S' x = none) → Q v H') (ExQ X.K l.tabs W S H σ)) : spR X.K l.tabs.pure encW ea mr er fm vs H Q (WE W σ) := by
  classical
  have fs := frz_same (P := P) c.sub.le
  refine ⟨frz S H P, a, gw t, (frz_sub c.sub E.ntH).re, wv.vw c.sub E, r.frame fs fun _ _ z => z.elim, RQ.imp q (fun r q v S' H' P1 g2 r2 o2 n2 => ?_) fun x z S' H' cls d g2 xr => z (M.unfrz P S') H' cls d (Grow.unfrz (K := X.K) c E.tupH E.ntH g2.re).1 (xr.unfrz c E g2.re)⟩
  obtain ⟨g3, t3⟩ := Grow.unfrz (K := X.K) (τ := l.tabs) c E.tupH E.ntH g2.re
  have hn : ∀ x, P1 x → (M.unfrz P S') x = none := fun x hx => by
    show (if P x then none else S' x) = none
    split
    · rfl
    · exact (n2 x hx).2
  exact q v (M.unfrz P S') H' P1 g3 (mv.mv r g2.sub r2 o2 (fun x hx => (n2 x hx).2) t3 fun _ _ e => e) o2 fun x hx => ⟨(n2 x hx).1, hn x hx⟩
theorem methR_q [mv : Mvs mr er] {rows : List (Str × (Hn × α → List ω → Res β))} (wv : Wv l (encW : ω → D) gw) (wr : Wr sh l (encW : ω → D) gw) (nf : NoFld ω m) (R : ∀ c F, rows.lookup c = some F → MRowS X m (WE W) (He.ga X.K c) (spR X.K l.tabs.pure encW (consD eH ea) mr er F)) (σ : L2.St) (H : Hp) (Q : VK) :
    tMO X.K l W mr er (methR gw rows fo ga) σ H Q → tPolyS X m (WE W) (tME X.K l W eH fo) (tMA X.K l W ea ga) σ H Q := fun ⟨S, t, P, c, E, q⟩ => ⟨S, t, P, c, E, q.bind.imp (fun h q v S1 H1 g r => by
    obtain ⟨a, rfl, hp, _⟩ := Rp.hnd r
    cases hr : rowOf rows (gw t) h with
    | none => simp only [hr] at q; exact q.elim
    | some F =>
      simp only [hr] at q
      obtain ⟨cn, dx, fs, h1, h2, h3⟩ := at_row (X := X) wr nf g.sub.le (E.grow g) hp hr
      refine ⟨_, _, a, dx, fs, rfl, h2, h3, R cn F h1, S1, t, P, c.grow g, E.grow g, RQ.imp (RQ.bind q) (fun b q vs S2 H2 g2 r2 => ?_) fun _ z => exq_grow z g⟩
      have rh : Rp X.K S2 H2 (.ref a) (eH h) Emp := r.grow g2
      have gg := g.trans g2
      exact spR_q wv (a := (h, b)) (c.grow gg) (E.grow gg) (rh.joinE r2) (RQ.imp q (fun z q v S' H' P1 g3 r3 o3 n3 => q v S' H' P1 (gg.trans g3) r3 o3 fun x e => ⟨gg.h.free (n3 x e).1, (n3 x e).2⟩) fun _ z => exq_grow z gg)) fun _ z => z⟩
theorem mo_methR [Mvs mr er] {rows : List (Str × (Hn × α → List ω → Res β))} (wv : Wv l (encW : ω → D) gw) (wr : Wr sh l (encW : ω → D) gw) (nf : NoFld ω m) (R : ∀ c F, rows.lookup c = some F → MRowS X m (WE W) (He.ga X.K c) (spR X.K l.tabs.pure encW (consD eH ea) mr er F)) (he : PE X o (tME X.K l W eH fo)) (ha : PA X (e :: es) (tMA X.K l W ea ga)) {pl : Sem Bool}
    (hst : starEach (e :: es) X.env = (false, eval e X.env) :: starEach es X.env := by rfl) (hpl : (backTo pos (starEach es X.env)).any (·.1) = false := by rfl)
    (ht : eval (.Call (.Attribute o m apos) (e :: es) [] pos) X.env = (do
      let ov ← eval o X.env
      standAt apos.atName
      let (f, first) ← holding [ov] (getMethod ov m pl)
      callWith pos f first (backTo pos (starEach (e :: es) X.env)) (backToKw pos (keywordEach [] X.env))) := by rfl) : PE X (.Call (.Attribute o m apos) (e :: es) [] pos) (tMO X.K l W mr er (methR gw rows fo ga)) := PE.imp (pe_methS2 he ha hst hpl ht) (methR_q wv wr nf R)
theorem a_nil (σ : L2.St) (H : Hp) (Q : List V → Hp → Prop) : tMA X.K l W nilD (fun _ => .ok ()) σ H Q → tNil σ H Q := fun ⟨S, t, P, c, E, q⟩ => q [] S H (.refl c.sub) .nil
theorem mo_methR0 [Mvs mr er] {rows : List (Str × (Hn × Unit → List ω → Res β))} (wv : Wv l (encW : ω → D) gw) (wr : Wr sh l (encW : ω → D) gw) (nf : NoFld ω m) (R : ∀ c F, rows.lookup c = some F → MRowS X m (WE W) (He.ga X.K c) (spR X.K l.tabs.pure encW (consD eH nilD) mr er F)) (he : PE X o (tME X.K l W eH fo)) {pl : Sem Bool}
    (ht : eval (.Call (.Attribute o m apos) [] [] pos) X.env = (do
      let ov ← eval o X.env
      standAt apos.atName
      let (f, first) ← holding [ov] (getMethod ov m pl)
      callWith pos f first (backTo pos (starEach [] X.env)) (backToKw pos (keywordEach [] X.env))) := by rfl) : PE X (.Call (.Attribute o m apos) [] [] pos) (tMO X.K l W mr er (methR gw rows fo (fun _ => .ok ()))) := PE.imp (pe_methS20 (pl := pl) he ht) fun σ H Q z => by
  obtain ⟨S, t, P, c, E, q⟩ := methR_q wv wr nf R σ H Q z
  refine ⟨S, t, P, c, E, q.imp (fun h q v S' H' g r => ?_) fun _ z => z⟩
  obtain ⟨C, sp, p, dx, fs, h1, h2, h3, h4, h5⟩ := q v S' H' g r
  exact ⟨C, sp, p, dx, fs, h1, h2, h3, h4, a_nil (X := X) (l := l) (W := W) σ H' _ h5⟩
/-! C.m(self, ..) -/
theorem mx_clsW {fw : α → List ω → OutX (List ω) β} {gx : T → OutX T α'} (wl : Wl l (encW : ω → D) gw pw) {fa : α' → α} (c : ClsFn X.K C m f) (F : FnOk X.prog X.w X.K X.mg X.base (L2.CX X.prog X.w) k f fd ps (spW X.K l.tabs encW ea mr er fw)) (hr : Room k X.A) (hg : Gl X x) (hm : X.mg x = some (.ref C)) (hb : Binds X.K fd ps ds) (hd : Vals dvs ds) (tk : Takes X W)
    (ha : PA X (e :: es) (tMXA X.K l W ea' gx)) (hfa : ∀ a, ea (fa a) = ea' a ++ dd) (hdd : ∀ S H, Rep X.K S H dvs dd Emp) {pl : Sem Bool} (hdb : (x == ("__debug__" : Str)) = false := by decide)
    (he : starEach (e :: es) X.env = (false, eval e X.env) :: starEach es X.env := by rfl) (hpl : (backTo pos (starEach es X.env)).any (·.1) = false := by rfl)
    (ht : eval (.Call (.Attribute (.Name x p) m apos) (e :: es) [] pos) X.env = (do
      let ov ← eval (.Name x p) X.env
      standAt apos.atName
      let (f, first) ← holding [ov] (getMethod ov m pl)
      callWith pos f first (backTo pos (starEach (e :: es) X.env)) (backToKw pos (keywordEach [] X.env))) := by rfl) : PE X (.Call (.Attribute (.Name x p) m apos) (e :: es) [] pos) (tMX X.K l W mr er (callX gw pw (fun a w => fw (fa a) w) gx)) :=
  PE.imp (pe_clsfnSD c F hr hg hm hb hd (fun σ => passAt tk σ) ha hdb he hpl ht) (call_qW wl hfa hdd)
theorem mo_clsR [Mvs mr er] {fm : α → List ω → Res β} {g : T → Res α'} (wv : Wv l (encW : ω → D) gw) {fa : α' → α} (c : ClsFn X.K C m f) (F : FnOk X.prog X.w X.K X.mg X.base (L2.CX X.prog X.w) k f fd ps (spR X.K l.tabs.pure encW ea mr er fm)) (hr : Room k X.A) (hg : Gl X x) (hm : X.mg x = some (.ref C)) (hb : Binds X.K fd ps ds) (hd : Vals dvs ds) (tk : Takes X W)
    (ha : PA X (e :: es) (tMA X.K l W ea' g)) (hfa : ∀ a, ea (fa a) = ea' a ++ dd) (hdd : ∀ S H, Rep X.K S H dvs dd Emp) {pl : Sem Bool} (hdb : (x == ("__debug__" : Str)) = false := by decide)
    (he : starEach (e :: es) X.env = (false, eval e X.env) :: starEach es X.env := by rfl) (hpl : (backTo pos (starEach es X.env)).any (·.1) = false := by rfl)
    (ht : eval (.Call (.Attribute (.Name x p) m apos) (e :: es) [] pos) X.env = (do
      let ov ← eval (.Name x p) X.env
      standAt apos.atName
      let (f, first) ← holding [ov] (getMethod ov m pl)
      callWith pos f first (backTo pos (starEach (e :: es) X.env)) (backToKw pos (keywordEach [] X.env))) := by rfl) : PE X (.Call (.Attribute (.Name x p) m apos) (e :: es) [] pos) (tMO X.K l W mr er (fun t => (g t).bind fun a => fm (fa a) (gw t))) :=
  PE.imp (pe_clsfnSD c F hr hg hm hb hd (fun σ => passAt tk σ) ha hdb he hpl ht) (call_qR wv hfa hdd)
/-! C(..) -/
theorem wok_new {K : PySem.W.Frag} {S : Sh} {H H2 : Hp} {w : List ω} {P : FP} {mk : ω} {a dx : Addr} {c : Str} {fs : List (Str × Option D)} (h : WOk K S H (encW : ω → D) w P) (hk : Wd.kd mk = .obj c fs) (hn : vsOf fs = []) (ha : H a = none) (kp : ∀ x o, H x = some o → H2 x = some o) (hx : H2 a = some (.ins (He.ga K c) dx [])) :
    WOk K ⟨S.h, fun i => if i = w.length then some a else S.mu i⟩ H2 (encW : ω → D) (w ++ [mk]) (fun x => P x ∨ x = a) ∧ SL S ⟨S.h, fun i => if i = w.length then some a else S.mu i⟩ := by
  obtain ⟨Ps, h1, h2, h3, h4⟩ := h.ex
  have sl : SL S ⟨S.h, fun i => if i = w.length then some a else S.mu i⟩ := ⟨Same.refl S.h, fun i b e => by
    show (if i = w.length then some a else S.mu i) = some b
    by_cases hi : i = w.length
    · rw [(h2 i (by omega)).1] at e; cases e
    · rw [if_neg hi]; exact e⟩
  have np : ∀ i, ¬ Ps i a := fun i hi => by
    obtain ⟨o, e⟩ := h.inH a ((h4 a).mpr ⟨i, hi⟩)
    rw [ha] at e; cases e
  have ns : nsOf fs = [] := List.length_eq_zero_iff.mp (by rw [nsOf_len, hn]; rfl)
  refine ⟨⟨fun i => if i = w.length then (fun x => x = a) else Ps i, fun i o e => ?_, fun i hi => ?_, fun i j ne x y z => ?_, fun x => ?_⟩, sl⟩
  · by_cases hi : i = w.length
    · subst hi
      rw [List.getElem?_append_right (Nat.le_refl _), Nat.sub_self] at e
      cases e
      refine ⟨a, by show (if _ then _ else _) = _; rw [if_pos rfl], ?_, by dsimp only; rw [if_pos rfl]⟩
      dsimp only
      rw [if_pos rfl]
      unfold encW
      rw [hk]
      show Rp K _ H2 (.ref a) (.obj c (nsOf fs) (vsOf fs)) _
      rw [ns, hn]
      refine (Rep.obj (ns := []) (ws := []) (es := []) (dx := dx) hx rfl .nil .nil (fun z => z) (fun z => z) fun _ z => z.elim).cast fun x => by simp
    · have hl : i < w.length := by
        have := (List.getElem?_eq_some_iff.mp e).1
        rw [List.length_append] at this
        simp at this
        omega
      rw [List.getElem?_append_left hl] at e
      obtain ⟨b, hb, rb, pb⟩ := h1 i o e
      refine ⟨b, sl.mu i b hb, ?_, by dsimp only; rw [if_neg hi]; exact pb⟩
      dsimp only
      rw [if_neg hi]
      exact rb.frame sl.tup fun x o _ _ z => kp x o z
  · rw [List.length_append] at hi
    simp at hi
    have ne : i ≠ w.length := by omega
    refine ⟨by show (if _ then _ else _) = _; rw [if_neg ne]; exact (h2 i (by omega)).1, fun x => ?_⟩
    dsimp only
    rw [if_neg ne]
    exact (h2 i (by omega)).2 x
  · dsimp only at y z
    by_cases e1 : i = w.length
    · rw [if_pos e1] at y
      rw [if_neg (by omega)] at z
      exact np j (y ▸ z)
    · rw [if_neg e1] at y
      by_cases e2 : j = w.length
      · rw [if_pos e2] at z
        exact np i (z ▸ y)
      · rw [if_neg e2] at z
        exact h3 i j ne x y z
  · constructor
    · rintro (y | y)
      · obtain ⟨i, hi⟩ := (h4 x).mp y
        have ne : i ≠ w.length := fun e => (h2 i (by omega)).2 x hi
        exact ⟨i, by dsimp only; rw [if_neg ne]; exact hi⟩
      · exact ⟨w.length, by dsimp only; rw [if_pos rfl]; exact y⟩
    · rintro ⟨i, y⟩
      by_cases e : i = w.length
      · rw [if_pos e] at y; exact .inr y
      · rw [if_neg e] at y; exact .inl ((h4 x).mpr ⟨i, y⟩)
theorem new_q {fw : Hn × α → List ω → OutX (List ω) Unit} {gx : T → OutX T α'} {fa : α' → α} {mk : ω} {c : Str} {fs : List (Str × Option D)} (wl : Wl l (encW : ω → D) gw pw) (hk : Wd.kd mk = .obj c fs) (hn : vsOf fs = []) (hfa : ∀ a, ea (fa a) = ea' a ++ dd) (hdd : ∀ S H, Rep X.K S H dvs dd Emp) (σ : L2.St) (H : Hp) (Q : VK) :
    tMX X.K l W .sh eH (newX gw pw mk (fun a w => fw (a.1, fa a.2) w) gx) σ H Q → tMakeSD (He.ga X.K c) (spW X.K l.tabs encW (consD eH ea) .sh (Enc.enc : Unit → D) fw) dvs (WE W) (tMXA X.K l W ea' gx) σ H Q := fun ⟨S, t, P, cf, E, q⟩ => ⟨S, t, P, cf, E, by
  unfold newX OutX.bind at q
  cases hg : gx t with
  | ex x t1 => rw [hg] at q; exact q
  | stuck => rw [hg] at q; exact q
  | ok a t1 =>
    simp only [hg] at q
    intro vs S1 H1 P1 g1 E1 r1 p dx hp hdx ne
    have h12 : ∀ x o, H1 x = some o → (upd (upd H1 dx (.own p)) p (.ins (He.ga X.K c) dx [])) x = some o := fun x o e => by
      have e1 : x ≠ p := fun z => by rw [z, hp] at e; cases e
      have e2 : x ≠ dx := fun z => by rw [z, hdx] at e; cases e
      rw [upd_ne e1, upd_ne e2]
      exact e
    generalize hH2 : upd (upd H1 dx (.own p)) p (.ins (He.ga X.K c) dx []) = H2 at h12 ⊢
    have hp2 : H2 p = some (.ins (He.ga X.K c) dx []) := by rw [← hH2, upd_same]
    obtain ⟨Ps, Pw, hw, d, rfl, bk⟩ := wl.split E1
    have c1 := g1.cfg
    obtain ⟨hw2, sl⟩ := wok_new (H2 := H2) (a := p) (dx := dx) hw hk hn hp h12 hp2
    generalize hS2 : (⟨S1.h, fun i => if i = (gw t1).length then some p else S1.mu i⟩ : Sh) = S2 at hw2 sl
    have eS : ∀ x, S2.h x = S1.h x := fun x => by rw [← hS2]
    have sub2 : Sub l.tabs S2 H2 := ⟨fun x o e => h12 x o (c1.sub x o (by rw [← eS]; exact e)), fun x ps e => c1.sub.nt x ps (by rw [← eS]; exact e), c1.sub.tb.ext fun x o e => h12 x o e⟩
    have npS : S1 p = none := c1.sub.free hp
    have nP : ¬ (Ps p ∨ Pw p) := fun z => by
      obtain ⟨o, e⟩ := c1.inh p z
      rw [hp] at e; cases e
    have gN : Grw l.tabs S1 H1 (fun x => Ps x ∨ Pw x) S2 H2 (fun x => Ps x ∨ (Pw x ∨ x = p)) := by
      refine ⟨sl, fun z => (by rw [wl.w] at z; cases z), ⟨sub2, fun x z => ?_, fun x z => ?_⟩, fun x o _ _ e => h12 x o e, fun x z => ?_, fun x o e => .inl ⟨o, by rw [← eS]; exact e⟩, fun x e => ?_⟩
      · rw [eS]
        rcases z with z | z | z
        · exact c1.sep x (.inl z)
        · exact c1.sep x (.inr z)
        · rw [z]; exact npS
      · rcases z with z | z | z
        · obtain ⟨o, e⟩ := c1.inh x (.inl z)
          exact ⟨o, h12 x o e⟩
        · obtain ⟨o, e⟩ := c1.inh x (.inr z)
          exact ⟨o, h12 x o e⟩
        · rw [z]; exact ⟨_, hp2⟩
      · rcases z with z | z | z
        · exact .inl (.inl z)
        · exact .inl (.inr z)
        · exact .inr (z ▸ hp)
      · cases h : H1 x with
        | none => exact .inr rfl
        | some o => rw [h12 x o h] at e; cases e
    have E2 : Env X.K S2 H2 σ l (pw t1 (gw t1 ++ [mk])) (fun x => Ps x ∨ (Pw x ∨ x = p)) := bk S2 H2 _ _ sl (fun x o _ _ e => h12 x o e) hw2 fun x y z => z.elim (d x y) fun z => nP (.inl (z ▸ y))
    have rh : Rp X.K S2 H2 (.ref p) (eH ⟨(gw t1).length⟩) Emp := Rep.hnd _ (by rw [← hS2]; show (if _ then _ else _) = _; rw [if_pos rfl]) .nil
    refine ⟨S2, (⟨(gw t1).length⟩, fa a), gw t1 ++ [mk], fun x => Pw x ∨ x = p, gN.cfg.mono fun x z => .inr z, hw2, ?_, ?_⟩
    · refine Rep.joinE rh ?_
      rw [hfa]
      exact Rep.appE (r1.frame sl fun _ _ z => z.elim) (hdd _ _)
    · have dj : Disj Ps (fun x => Pw x ∨ x = p) := fun x y z => z.elim (d x y) fun z => nP (.inl (z ▸ y))
      have nt : ∀ x o, Ps x → H2 x = some o → NT o := fun x o y e => E2.ntH x o (.inl y) e
      cases hf : fw (⟨(gw t1).length⟩, fa a) (gw t1 ++ [mk]) with
      | ok u w' =>
        simp only [hf] at q
        intro v S' H' P' Pv g hw' rv ov dv
        have ov : Pv = Emp := ov
        subst ov
        have g := g.orE
        have g2 := g.frameL gN.cfg nt dj
        have dP : Disj Ps P' := fun x y z => by
          rcases g.fp x z with e | e
          · exact dj x y e
          · obtain ⟨o, e2⟩ := gN.cfg.inh x (.inl y)
            rw [e] at e2; cases e2
        have E3 := bk S' H' w' P' (sl.trans g.s) (fun x o y n e => g.keep x o (dj x y) n (h12 x o e)) hw' dP
        refine ⟨(Rp.non rv).1, (XV.trans q g1) (.ref p) S' H' (fun x => Ps x ∨ P' x) Emp (by rw [or_emp]; exact gN.trans g2) E3 (rh.frame g.s fun _ _ z => z.elim) rfl fun _ _ z => z⟩
      | ex x w' =>
        simp only [hf] at q
        intro cls d0 S' H' P' g hw' rv
        have g2 := g.frameL gN.cfg nt dj
        have dP : Disj Ps P' := fun x y z => by
          rcases g.fp x z with e | e
          · exact dj x y e
          · obtain ⟨o, e2⟩ := gN.cfg.inh x (.inl y)
            rw [e] at e2; cases e2
        have E3 := bk S' H' w' P' (sl.trans g.s) (fun x o y n e => g.keep x o (dj x y) n (h12 x o e)) hw' dP
        exact (XE.trans (show XE X.K l W S H P σ x (pw t1 w') from q) g1) cls d0 S' H' _ (gN.trans g2) E3 rv
      | stuck => simp only [hf] at q; exact q⟩
theorem mx_new {fw : Hn × α → List ω → OutX (List ω) Unit} {gx : T → OutX T α'} {fa : α' → α} {mk : ω} {c : Str} {fs : List (Str × Option D)} (wl : Wl l (encW : ω → D) gw pw) (hk : Wd.kd mk = .obj c fs) (hn : vsOf fs = []) (MK : L2.Mk X.K (He.ga X.K c) f) (F : FnOk X.prog X.w X.K X.mg X.base (L2.CX X.prog X.w) k f fd ps (spW X.K l.tabs encW (consD eH ea) .sh (Enc.enc : Unit → D) fw)) (hr : Room (k + 1) X.A) (hg : Gl X x) (hm : X.mg x = some (.ref (He.ga X.K c))) (hb : Binds X.K fd ps ds) (hd : Vals dvs ds) (tk : Takes X W)
    (ha : PA X (e :: es) (tMXA X.K l W ea' gx)) (hfa : ∀ a, ea (fa a) = ea' a ++ dd) (hdd : ∀ S H, Rep X.K S H dvs dd Emp) (hdb : (x == ("__debug__" : Str)) = false := by decide)
    (he : starEach (e :: es) X.env = (false, eval e X.env) :: starEach es X.env := by rfl) (hpl : (backTo pos (starEach es X.env)).any (·.1) = false := by rfl) : PE X (.Call (.Name x p) (e :: es) [] pos) (tMX X.K l W .sh eH (newX gw pw mk (fun a w => fw (a.1, fa a.2) w) gx)) :=
  PE.imp (pe_makeSD MK F hr hg hm hb hd (fun σ => passAt tk σ) ha hdb he hpl) (new_q wl hk hn hfa hdd)
theorem mx_new0 {fw : Hn × α → List ω → OutX (List ω) Unit} {fa : Unit → α} {mk : ω} {c : Str} {fs : List (Str × Option D)} (wl : Wl l (encW : ω → D) gw pw) (hk : Wd.kd mk = .obj c fs) (hn : vsOf fs = []) (MK : L2.Mk X.K (He.ga X.K c) f) (F : FnOk X.prog X.w X.K X.mg X.base (L2.CX X.prog X.w) k f fd ps (spW X.K l.tabs encW (consD eH ea) .sh (Enc.enc : Unit → D) fw)) (hr : Room (k + 1) X.A) (hg : Gl X x) (hm : X.mg x = some (.ref (He.ga X.K c))) (hb : Binds X.K fd ps ds) (hd : Vals dvs ds) (tk : Takes X W)
    (hfa : ∀ a, ea (fa a) = nilD a ++ dd) (hdd : ∀ S H, Rep X.K S H dvs dd Emp) (hdb : (x == ("__debug__" : Str)) = false := by decide) : PE X (.Call (.Name x p) [] [] pos) (tMX X.K l W .sh eH (newX gw pw mk (fun a w => fw (a.1, fa a.2) w) (fun t => .ok () t))) :=
  PE.imp (pe_makeSD0 MK F hr hg hm hb hd (fun σ => passAt tk σ) hdb) fun σ H Q z => xa_nil (X := X) (l := l) (W := W) σ H _ (new_q wl hk hn hfa hdd σ H Q z)
/-! isinstance(o, C) -/
theorem me_gl {x : Str} (hg : Gl X x) (hm : X.mg x = some (.ref (He.ga X.K x))) (hdb : (x == ("__debug__" : Str)) = false := by decide) : PE X (.Name x pos) (tC (.ref (He.ga X.K x))) := pe_glob hg hm rfl hdb
end
end M

namespace M
open Enc (enc)
open PySem PySem.Spec PyProof.Rows L2 W
/-! ### containers changed in place -/
structure SelE (b : Bool) {α : Type} (ea : α → D) : Prop where
  mv : ∀ {K : PySem.W.Frag} {S : Sh} {H : Hp} {v : V} (a : α), Rp K S H v (ea a) Emp → Rp K (selS b S) H v (ea a) Emp
  em : b = true → ∀ {K : PySem.W.Frag} {S : Sh} {H : Hp} {v : V} {P : FP} (a : α), Rp K S H v (ea a) P → P = Emp
theorem SelE.f {α : Type} {ea : α → D} : SelE false ea := ⟨fun a r => r, fun z => nomatch z⟩
theorem SelE.t {α : Type} {ea : α → D} [q : Emx ea] : SelE true ea := ⟨fun a r => q.mv a r (fun p ws h => Sh.tup_sq h) fun _ _ e => e, fun _ {K S H v P} a r => q.em a r⟩
theorem SL.sel {b : Bool} {S S' : Sh} (s : SL S S') : SL (selS b S) (selS b S') := by
  cases b with
  | true => exact s.tup
  | false => exact s
theorem SL.selL (b : Bool) (S : Sh) : SL (selS b S) S := by
  cases b with
  | true => exact SL.tupL S
  | false => exact SL.refl S
section
variable {ω T α β : Type} {K : PySem.W.Frag} {S S' : Sh} {H H' : Hp} {σ : L2.St} {l : Lay T} {P P' : FP} {p : Addr} {b : Bool}
theorem sel_map {ea : α → D} (se : SelE b ea) : ∀ {xs : List α} {ws : List V}, Rep K S H ws (xs.map ea) Emp → Rep K (selS b S) H ws (xs.map ea) Emp
  | [], ws, r => by obtain ⟨rfl, _⟩ := r.nilP; exact .nil
  | x :: xs, ws, r => by
    obtain ⟨v, us, rfl, r1, r2⟩ := r.splitE
    exact (se.mv x r1).joinE (sel_map se r2)
theorem sel_em {ea : α → D} (se : SelE b ea) (h : b = true) : ∀ {xs : List α} {ws : List V} {P : FP}, Rep K S H ws (xs.map ea) P → P = Emp
  | [], ws, P, r => (r.nilP).2
  | x :: xs, ws, P, r => by
    obtain ⟨v, us, P1, P2, rfl, r1, r2, _, hp⟩ := r.split
    have e1 := se.em h x r1
    have e2 := sel_em se h r2
    exact fp_eq fun x => by rw [hp, e1, e2]; simp
theorem Rp.lstO {es : List D} (r : Rp K S H (.ref p) (.lst es) P) (hp : P p) : ∃ ws P1, H p = some (.lst ws) ∧ Rep K S H ws es P1 ∧ ¬ P1 p ∧ P = fun x => x = p ∨ P1 x := by
  cases r with
  | owl h r1 z n1 n2 d =>
    obtain ⟨_, rfl⟩ := z.nilP
    exact ⟨_, _, h, r1, n1, fp_eq fun x => by simp⟩
  | shl h r1 z =>
    obtain ⟨_, rfl⟩ := z.nilP
    exact hp.elim
theorem Rp.dicO {ks : List Ky} {es : List D} (r : Rp K S H (.ref p) (.dic ks es) P) (hp : P p) : ∃ ws P1, H p = some (.dK (ks.zip ws)) ∧ KL ks ws ∧ Rep K S H ws es P1 ∧ ¬ P1 p ∧ P = fun x => x = p ∨ P1 x := by
  cases r with
  | dic h l r1 z n1 n2 d =>
    obtain ⟨_, rfl⟩ := z.nilP
    exact ⟨_, _, h, l, r1, n1, fp_eq fun x => by simp⟩
  | shd h l r1 z =>
    obtain ⟨_, rfl⟩ := z.nilP
    exact hp.elim
theorem flat_e {P1 Pe : FP} (h1 : ∀ x, P1 x → x = p) (n : ¬ Pe p) (e : P1 = fun x => x = p ∨ Pe x) : Pe = Emp := fp_eq fun x => ⟨fun z => n ((h1 x (by rw [e]; exact .inr z)) ▸ z), False.elim⟩
theorem foc_lst [Enc α] {xs : List α} {set : List α → T} (fo : Foc b K l S H σ P p (Enc.enc : List α → D) xs set) (se : SelE b (Enc.enc : α → D)) (c : Cfg l.tabs S H P) : ∃ ws, H p = some (.lst ws) ∧ P p ∧ Rep K (selS b S) H ws (xs.map enc) Emp ∧
    ∀ (ws' : List V) (xs' : List α) (S2 : Sh) (H2 : Hp), Grow l.tabs S H S2 H2 → Rep K (selS b S2) H2 ws' (xs'.map enc) Emp → Grw l.tabs S H P S2 (upd H2 p (.lst ws')) P ∧ Env K S2 (upd H2 p (.lst ws')) σ l (set xs') P := by
  obtain ⟨P1, Pr, hp, fl, r, dj, rfl, bk⟩ := fo
  obtain ⟨ws, Pe, hH, r1, n, e⟩ := Rp.lstO r hp
  have ee : Pe = Emp := by
    cases b with
    | true => exact sel_em se rfl r1
    | false => exact flat_e (fl rfl) n e
  subst ee
  have e1 : P1 = fun x => x = p := by rw [e]; exact fp_eq fun x => by simp
  subst e1
  refine ⟨ws, hH, .inl rfl, r1, fun ws' xs' S2 H2 g r2 => ?_⟩
  have c2 := c.grow g
  have gu : Grw l.tabs S2 H2 _ S2 (upd H2 p (.lst ws')) _ := Grw.upd c2 (.inl rfl) (g.h.lst hH) .lst
  have r3 : Rp K (selS b S2) (upd H2 p (.lst ws')) (.ref p) (Enc.enc xs') (fun x => x = p) :=
    (Rep.owl upd_same (Rep.frame r2 (SL.refl _) fun _ _ z => z.elim) .nil (fun z => z) (fun z => z) fun _ z => z.elim).cast fun x => by simp
  refine ⟨(g.grw c).trans gu, bk S2 _ xs' _ g.s g.mu (fun x o hx nt z => ?_) rfl (fun _ x z => z) r3 dj⟩
  rw [upd_ne (fun e => dj x e hx)]
  exact g.h.at_ x o nt z
theorem foc_dic {κ : Type} [DecidableEq κ] [KyC κ] [Enc α] {d : Dct κ α} {set : Dct κ α → T} (fo : Foc b K l S H σ P p (Enc.enc : Dct κ α → D) d set) (se : SelE b (Enc.enc : α → D)) (c : Cfg l.tabs S H P) : ∃ ws, H p = some (.dK ((ksD d.kvs).zip ws)) ∧ P p ∧ KL (ksD d.kvs) ws ∧ Rep K (selS b S) H ws (vsD d.kvs) Emp ∧
    ∀ (ws' : List V) (d' : Dct κ α) (S2 : Sh) (H2 : Hp), Grow l.tabs S H S2 H2 → KL (ksD d'.kvs) ws' → Rep K (selS b S2) H2 ws' (vsD d'.kvs) Emp → Grw l.tabs S H P S2 (upd H2 p (.dK ((ksD d'.kvs).zip ws'))) P ∧ Env K S2 (upd H2 p (.dK ((ksD d'.kvs).zip ws'))) σ l (set d') P := by
  obtain ⟨P1, Pr, hp, fl, r, dj, rfl, bk⟩ := fo
  obtain ⟨ws, Pe, hH, kl, r1, n, e⟩ := Rp.dicO r hp
  have ee : Pe = Emp := by
    cases b with
    | true =>
      have q : Rep K (selS true S) H ws ((d.kvs.map (·.2)).map enc) Pe := by rw [List.map_map]; exact r1
      exact sel_em se rfl q
    | false => exact flat_e (fl rfl) n e
  subst ee
  have e1 : P1 = fun x => x = p := by rw [e]; exact fp_eq fun x => by simp
  subst e1
  refine ⟨ws, hH, .inl rfl, kl, r1, fun ws' d' S2 H2 g kl2 r2 => ?_⟩
  have c2 := c.grow g
  have gu : Grw l.tabs S2 H2 _ S2 (upd H2 p (.dK ((ksD d'.kvs).zip ws'))) _ := Grw.upd c2 (.inl rfl) (g.h.dK hH) .dK
  have r3 : Rp K (selS b S2) (upd H2 p (.dK ((ksD d'.kvs).zip ws'))) (.ref p) (Enc.enc d') (fun x => x = p) :=
    (Rep.dic upd_same kl2 (Rep.frame r2 (SL.refl _) fun _ _ z => z.elim) .nil (fun z => z) (fun z => z) fun _ z => z.elim).cast fun x => by simp
  refine ⟨(g.grw c).trans gu, bk S2 _ d' _ g.s g.mu (fun x o hx nt z => ?_) rfl (fun _ x z => z) r3 dj⟩
  rw [upd_ne (fun e => dj x e hx)]
  exact g.h.at_ x o nt z
/-! paths -/
def tMF (b : Bool) (K : PySem.W.Frag) (l : Lay T) (W : WX) (en : α → D) (get : T → Res α) (set : T → α → T) : TE := fun σ H Q => ∃ S t P, Cfg l.tabs S H P ∧ Env K S H σ l t P ∧ RQ (get t) (fun a => ∀ p S' H', Grow l.tabs S H S' H' → Foc b K l S' H' σ P p en a (set t) → Q (.ref p) H') (ExQ K l.tabs W S H σ)
end
/-- a thing's field, a container -/
structure FldM {ω α : Type} [Wd ω] (cs : List Str) (f : Str) (en : α → D) (get : ω → Option α) (put : ω → α → ω) : Prop where
  at_ : ∀ {o : ω} {a : α}, get o = some a → ∃ c fs, Wd.kd o = .obj c fs ∧ c ∈ cs ∧ fs.lookup f = some (some (en a)) ∧ ∀ a', Wd.kd (put o a') = .obj c (putO f (en a') fs)
/-- data that lie at one address of their own where they are owned -/
class Con {α : Type} (en : α → D) : Prop where
  con : ∀ {K : PySem.W.Frag} {S : Sh} {H : Hp} {v : V} {P : FP} (a : α), Rp K S.tup H v (en a) P → ∃ p, v = .ref p ∧ P p
instance {α : Type} [Enc α] : Con (Enc.enc : List α → D) := ⟨fun a r => by
  cases r with
  | shl h _ _ =>
    obtain ⟨_, ⟨_, e⟩ | ⟨_, _, e⟩⟩ := Sh.tup_eq h <;> cases e
  | owl => exact ⟨_, rfl, .inl rfl⟩⟩
instance {κ α : Type} [KyC κ] [Enc α] : Con (Enc.enc : Dct κ α → D) := ⟨fun a r => by
  cases r with
  | shd h _ _ _ =>
    rcases h with h | ⟨_, h⟩ <;> (obtain ⟨_, ⟨_, e⟩ | ⟨_, _, e⟩⟩ := Sh.tup_eq h <;> cases e)
  | dic => exact ⟨_, rfl, .inl rfl⟩⟩
section
variable {K : PySem.W.Frag} {S : Sh} {H : Hp}
/-- one field apart -/
theorem zip_foc {f : Str} {d : D} : ∀ {fs : List (Str × Option D)} {ws : List V} {P : FP}, Rep K S H ws (vsOf fs) P → fs.lookup f = some (some d) → ∃ v Pv Pr, ((nsOf fs).zip ws).lookup f = some v ∧ Rp K S H v d Pv ∧ Disj Pv Pr ∧ (P = fun x => Pv x ∨ Pr x) ∧
    ∀ (d' : D) (S' : Sh) (H' : Hp) (Pv' : FP), SL S S' → (∀ x o, Pr x → NT o → H x = some o → H' x = some o) → Rp K S' H' v d' Pv' → Disj Pv' Pr → Rep K S' H' ws (vsOf (putO f d' fs)) (fun x => Pv' x ∨ Pr x) ∧ nsOf (putO f d' fs) = nsOf fs
  | [], ws, P, _, h => by simp at h
  | (g, none) :: r, ws, P, q, h => by
    have q : Rep K S H ws (vsOf r) P := q
    rw [List.lookup_cons] at h
    split at h
    · cases h
    · rename_i e
      have ne : ¬ g = f := fun z => by rw [z] at e; simp at e
      obtain ⟨v, Pv, Pr, h1, h2, h3, h4, h5⟩ := zip_foc (fs := r) q h
      refine ⟨v, Pv, Pr, h1, h2, h3, h4, fun d' S' H' Pv' s kp r' dj => ?_⟩
      unfold putO
      rw [if_neg ne]
      exact h5 d' S' H' Pv' s kp r' dj
  | (g, some d0) :: r, ws, P, q, h => by
    have q : Rep K S H ws (d0 :: vsOf r) P := q
    obtain ⟨w, us, P1, P2, rfl, r1, r2, dd, hp⟩ := q.split
    rw [List.lookup_cons] at h
    show ∃ v Pv Pr, ((g :: nsOf r).zip (w :: us)).lookup f = some v ∧ _
    rw [List.zip_cons_cons, List.lookup_cons]
    split at h
    · rename_i e
      have eq : g = f := by have := eq_of_beq e; exact this.symm
      cases h
      refine ⟨w, P1, P2, rfl, r1, dd, fp_eq hp, fun d' S' H' Pv' s kp r' dj => ?_⟩
      unfold putO
      rw [if_pos eq]
      exact ⟨Rep.join r' (r2.frame s kp) dj, rfl⟩
    · rename_i e
      have ne : ¬ g = f := fun z => by rw [z] at e; simp at e
      obtain ⟨v, Pv, Pr, h1, h2, h3, h4, h5⟩ := zip_foc (fs := r) r2 h
      subst h4
      refine ⟨v, Pv, fun x => P1 x ∨ Pr x, h1, h2, fun x y z => z.elim (fun z => dd x z (.inl y)) (h3 x y), fp_eq fun x => ?_, fun d' S' H' Pv' s kp r' dj => ?_⟩
      · rw [hp]
        exact ⟨fun z => z.elim (fun z => .inr (.inl z)) fun z => z.elim .inl fun z => .inr (.inr z), fun z => z.elim (fun z => .inr (.inl z)) fun z => z.elim .inl fun z => .inr (.inr z)⟩
      · unfold putO
        rw [if_neg ne]
        obtain ⟨a1, a2⟩ := h5 d' S' H' Pv' s (fun x o hx => kp x o (.inr hx)) r' fun x y z => dj x y (.inr z)
        refine ⟨(Rep.join (r1.frame s fun x o hx => kp x o (.inl hx)) a1 fun x y z => z.elim (fun z => dj x z (.inl y)) fun z => dd x y (.inr z)).cast fun x => ?_, congrArg (g :: ·) a2⟩
        exact ⟨fun z => z.elim (fun z => .inr (.inl z)) fun z => z.elim .inl fun z => .inr (.inr z), fun z => z.elim (fun z => .inr (.inl z)) fun z => z.elim .inl fun z => .inr (.inr z)⟩
end
section
variable {X : Cx} {ω T R α β γ δ κ : Type} {l : Lay T} {n : Nat} {W : WX} {mr : Md} {er : R → D} {o e : Expr} {es : List Expr} {en : α → D} {gw : T → List ω} {pw : T → List ω → T} {get : ω → Option α} {put : ω → α → ω} {cs : List Str} {f : Str} {fo : T → Res Hn} {pos pos' apos cpos : Pos} {sh b : Bool}
theorem mf_name {i : Nat} {gt : T → Option α} {pt : T → Option α → T} (hv : PE X e (tVar i)) (k : Tak l i .ow en gt pt) : PE X e (tMF false X.K l W en (fun t => .ofO (gt t)) (fun t a => pt t (some a))) := PE.imp hv fun σ H Q ⟨S, t, P, c, E, q⟩ => by
  obtain ⟨a, e, q⟩ := RQ.ofO q
  obtain ⟨v, P1, P2, hs, r, ⟨p, rfl, rfl⟩, E2, dj, rfl⟩ := k.tak E e
  refine ⟨_, hs, q p S H (.refl c.sub) ⟨fun x => x = p, P2, rfl, fun _ x z => z, r, dj, rfl, fun S' H' a' P1' s m kp hp fl r' dj' => ?_⟩⟩
  have e1 : P1' = fun x => x = p := fp_eq fun x => ⟨fl rfl x, fun z => z ▸ hp⟩
  subst e1
  exact k.bak (E2.frame s m kp) hs r' ⟨p, rfl, rfl⟩ dj'
theorem mf_fld [Wd ω] [con : Con en] (wl : Wl l (encW : ω → D) gw pw) (fl : FldM cs f en get put) (hc : ∀ c ∈ cs, ClA X.K f c) (ho : PE X o (tME X.K l W eH fo)) (hb : attributeBase o f X.env (eval o X.env) = eval o X.env := by rfl) : PE X (.Attribute o f pos) (tMF true X.K l W en (fldF gw get fo) (fldSet gw pw put fo)) := PE.imp (pe_fld ho hb) fun σ H Q ⟨S, t, P, c, E, q⟩ => ⟨S, t, P, c, E, by
  unfold fldF at q
  cases hf : fo t with
  | stuck => rw [hf] at q; exact q
  | ex x => rw [hf] at q; exact q
  | ok h =>
    rw [hf] at q
    intro v S1 H1 g r
    obtain ⟨a, e, q⟩ := RQ.ofO q
    obtain ⟨p, rfl, hp, _⟩ := Rp.hnd r
    obtain ⟨ob, h1, h2⟩ := Option.bind_eq_some_iff.mp e
    obtain ⟨cn, fs, ek, hcs, hl, hput⟩ := fl.at_ h2
    have c1 := c.grow g
    obtain ⟨Po, Pr, hpo, _, ro, dj, rfl, bk⟩ := foc_obj wl (E.grow g) h1 hp
    have rk : Rp X.K S1.tup H1 (.ref p) (.obj cn (nsOf fs) (vsOf fs)) Po := by
      have := ro
      unfold encW at this
      rw [ek] at this
      exact this
    obtain ⟨dx, ws, Pf, hH, hlen, rf, nf, rfl⟩ := Rp.objO rk hpo
    obtain ⟨v, Pv, Pq, h3, rv, dq, rfl, bk2⟩ := zip_foc rf hl
    obtain ⟨q1, rfl, hq1⟩ := con.con a rv
    refine ⟨p, _, dx, _, _, rfl, hH, (hc cn hcs).cl, (hc cn hcs).na, h3, q q1 S1 H1 g ⟨Pv, fun x => (x = p ∨ Pq x) ∨ Pr x, hq1, (fun z => nomatch z), rv, fun x y z => ?_, fp_eq fun x => ?_, fun S' H' a' P1' s m kp hp' _ r' dj' => ?_⟩⟩
    · rcases z with (z | z) | z
      · exact nf (.inl (z ▸ y))
      · exact dq x y z
      · exact dj x (.inr (.inl y)) z
    · constructor
      · rintro ((z | z | z) | z)
        · exact .inr (.inl (.inl z))
        · exact .inl z
        · exact .inr (.inl (.inr z))
        · exact .inr (.inr z)
      · rintro (z | (z | z) | z)
        · exact .inl (.inr (.inl z))
        · exact .inl (.inl z)
        · exact .inl (.inr (.inr z))
        · exact .inr z
    · obtain ⟨a1, a2⟩ := bk2 (en a') S'.tup H' P1' s.tup (fun x o hx => kp x o (.inl (.inr hx))) r' fun x y z => dj' x y (.inl (.inr z))
      have np : ¬ (P1' p ∨ Pq p) := fun z => z.elim (fun z => dj' p z (.inl (.inl rfl))) fun z => nf (.inr z)
      have hH' := kp p (.ins (He.ga X.K cn) dx ((nsOf fs).zip ws)) (.inl (.inl rfl)) (fun _ z => nomatch z) hH
      have r3 : Rp X.K S'.tup H' (.ref p) (encW (put ob a')) (fun x => x = p ∨ (P1' x ∨ Pq x)) := by
        unfold encW
        rw [hput a']
        show Rp X.K S'.tup H' (.ref p) (.obj cn (nsOf (putO f (en a') fs)) (vsOf (putO f (en a') fs))) _
        rw [a2]
        exact Rp.mkO hH' hlen a1 np
      have E3 := bk S' H' (put ob a') _ s m (fun x o hx => kp x o (.inr hx)) (.inl rfl) (fun z => nomatch z) r3 fun x y z => by
        rcases y with y | y | y
        · exact dj x (.inl y) z
        · exact dj' x y (.inr z)
        · exact dj x (.inr (.inr y)) z
      have es : fldSet gw pw put fo t a' = pw t ((gw t).set h.i (put ob a')) := by
        unfold fldSet
        rw [hf]
        dsimp only
        rw [h1]
      rw [es]
      have e2 : (fun x => (x = p ∨ (P1' x ∨ Pq x)) ∨ Pr x) = fun x => P1' x ∨ ((x = p ∨ Pq x) ∨ Pr x) := fp_eq fun x => by
        constructor
        · rintro ((z | z | z) | z)
          · exact .inr (.inl (.inl z))
          · exact .inl z
          · exact .inr (.inl (.inr z))
          · exact .inr (.inr z)
        · rintro (z | (z | z) | z)
          · exact .inl (.inr (.inl z))
          · exact .inl (.inl z)
          · exact .inl (.inr (.inr z))
          · exact .inr z
      rw [← e2]
      exact E3⟩
end
end M

namespace M
open Enc (enc)
open PySem PySem.Spec PyProof.Rows L2 W
/-! ### containers' methods, in place -/
section
variable {X : Cx} {T R α β γ δ κ : Type} {l : Lay T} {n : Nat} {W : WX} {mr : Md} {er : R → D} {o e i value : Expr} {es : List Expr} {pos pos' apos cpos : Pos} {b : Bool} {ea : α → D} {eb : β → List D} {ec : γ → D}
structure LOp (K : PySem.W.Frag) (r : V → List V → Hp → VK → Prop) (ea : α → D) (eb : β → List D) (ec : γ → D) (F : List α → β → Res (γ × List α)) : Prop where
  run : ∀ {Se S : Sh} {H : Hp} {p : Addr} {ws : List V} {xs : List α} {vs : List V} {y : β} {Q : VK}, SL Se S → (∀ v a, Rp K S H v (ea a) Emp → Rp K Se H v (ea a) Emp) → Same S H → H p = some (.lst ws) → Rep K Se H ws (xs.map ea) Emp → Rep K S H vs (eb y) Emp →
    RQ (F xs y) (fun q => ∀ z ws', Rep K Se H ws' (q.2.map ea) Emp → Rp K S H z (ec q.1) Emp → Q z (upd H p (.lst ws'))) (fun _ => False) → r (.ref p) vs H Q
  nox : ∀ xs y, NoX (F xs y)
theorem lm_q [Enc α] {r : V → List V → Hp → VK → Prop} {F : List α → β → Res (γ × List α)} {get : T → Res (List α)} {set : T → List α → T} {g : T → Res β} (op : LOp X.K r (Enc.enc : α → D) eb ec F) (se : SelE b (Enc.enc : α → D)) (ecx : ∀ {K : PySem.W.Frag} {S : Sh} {H H' : Hp} {v : V} (c : γ), Rp K S H v (ec c) Emp → Rp K S H' v (ec c) Emp) (σ : L2.St) (H : Hp) (Q : VK) :
    tMX X.K l W .sh ec (mutX get set g F) σ H Q → tBM X.K "list" r (tMF b X.K l W (Enc.enc : List α → D) get set) (tMA X.K l W eb g) σ H Q := fun ⟨S, t, P, c, E, q⟩ => ⟨S, t, P, c, E, by
  unfold mutX at q
  cases hg : get t with
  | stuck => rw [hg] at q; exact q
  | ex x => rw [hg] at q; exact fun S' H' cls d g r => q cls d S' H' P (g.grw c) (E.grow g) r
  | ok xs =>
    simp only [hg] at q
    intro p S1 H1 g1 fo
    have c1 := c.grow g1
    obtain ⟨ws, hH, hp, r1, bk⟩ := foc_lst fo se c1
    refine ⟨.inl ⟨rfl, ws, SqL.of hH⟩, S1, t, P, c1, E.grow g1, ?_⟩
    cases ha : g t with
    | stuck => simp only [ha] at q; exact q
    | ex x => simp only [ha] at q; exact fun S' H' cls d g2 r => q cls d S' H' P ((g1.trans g2).grw c) ((E.grow g1).grow g2) r
    | ok y =>
      simp only [ha] at q
      intro vs S2 H2 g2 r2
      have hH2 := g2.h.lst hH
      refine op.run (SL.selL b S2) (fun v a r => se.mv a r) g2.sub.le hH2 (r1.frame g2.s.sel fun _ _ z => z.elim) r2 ?_
      have nx := op.nox xs y
      cases hF : F xs y with
      | stuck => simp only [hF] at q; exact q
      | ex x => exact absurd hF (nx x)
      | ok w =>
        simp only [hF] at q
        intro z ws' r3 r4
        obtain ⟨gw, E3⟩ := bk ws' w.2 S2 H2 g2 r3
        exact q z S2 _ P Emp (by rw [or_emp]; exact (g1.grw c).trans gw) E3 (ecx _ r4) rfl fun _ _ z => z⟩
theorem mx_lm [Enc α] {id : String} {name : Str} {r : V → List V → Hp → VK → Prop} {F : List α → β → Res (γ × List α)} {get : T → Res (List α)} {set : T → List α → T} {g : T → Res β} (pa : PlainAttrs "list") (slot : Slot "list" name id) (hty : typeOf (.builtin id) = pure (.type "method_descriptor")) (hm : MtR X id r)
    (op : LOp X.K r (Enc.enc : α → D) eb ec F) (se : SelE b (Enc.enc : α → D)) (ecx : ∀ {K : PySem.W.Frag} {S : Sh} {H H' : Hp} {v : V} (c : γ), Rp K S H v (ec c) Emp → Rp K S H' v (ec c) Emp) (ho : PE X o (tMF b X.K l W (Enc.enc : List α → D) get set)) (ha : PA X (e :: es) (tMA X.K l W eb g))
    (hbase : attributeBase o name X.env (eval o X.env) = eval o X.env := by rfl)
    (hfew : ((backTo cpos (starEach (e :: es) X.env)).all (fun x => !x.1) && (backToKw cpos (keywordEach [] X.env)).all (fun x => x.1.isSome)
      && decide ((e :: es).length + ([] : List Keyword).length + (if ([] : List Keyword).isEmpty then 0 else 1) < 30)) = true := by rfl)
    (hline : (apos.endLine == cpos.line) = true := by rfl) (hs : starEach (e :: es) X.env = (false, eval e X.env) :: starEach es X.env := by rfl) (hplain : (backTo cpos (starEach es X.env)).any (·.1) = false := by rfl) :
    PE X (.Call (.Attribute o name apos) (e :: es) [] cpos) (tMX X.K l W .sh ec (mutX get set g F)) := PE.imp (pe_bm pa slot hty hm ho ha hbase hfew hline hs hplain) (lm_q op se ecx)
theorem scx_u {K : PySem.W.Frag} {S : Sh} {H H' : Hp} {v : V} (c : Unit) (r : Rp K S H v ((Enc.enc : Unit → D) c) Emp) : Rp K S H' v ((Enc.enc : Unit → D) c) Emp := r.frame (SL.refl S) fun _ _ z => z.elim
theorem scx {K : PySem.W.Frag} {S : Sh} {H H' : Hp} {v : V} {ec : γ → D} (c : γ) (r : Rp K S H v (ec c) Emp) : Rp K S H' v (ec c) Emp := r.frame (SL.refl S) fun _ _ z => z.elim
theorem rep_app {K : PySem.W.Frag} {S : Sh} {H : Hp} {ws us : List V} {xs ys : List α} (a : Rep K S H ws (xs.map ea) Emp) (c : Rep K S H us (ys.map ea) Emp) : Rep K S H (ws ++ us) ((xs ++ ys).map ea) Emp := by
  rw [List.map_append]
  exact a.appE c
theorem lop_append {K : PySem.W.Frag} : LOp K rAppend ea (a1 ea) (Enc.enc : Unit → D) lAppend := ⟨fun {Se S H p ws xs vs y Q} sl up sub hH r1 r2 q => by
  obtain ⟨v, us, rfl, r3, r4⟩ := r2.splitE
  obtain ⟨rfl, _⟩ := r4.nilP
  obtain ⟨hc, q⟩ := RQ.chk q
  have hl : ws.length = xs.length := by rw [r1.len, List.length_map]
  refine ⟨p, ws, v, rfl, rfl, hH, by rw [hl]; exact of_decide_eq_true hc, q .non (ws ++ [v]) (rep_app (ys := [y.1]) r1 (up v _ r3)) (Rep.non .nil)⟩, fun _ _ => nx_chk⟩
theorem lop_insert {K : PySem.W.Frag} : LOp K (fun x vs H Q => ∃ (l : Addr) (xs : List V) (i : Int) (y : V), x = .ref l ∧ vs = [.int i, y] ∧ H l = some (.lst xs) ∧ xs.length < sizeLine ∧ 0 ≤ i ∧ i < 2 ^ 63 ∧ Q .non (upd H l (.lst (xs.take i.toNat ++ [y] ++ xs.drop i.toNat)))) ea (consD eI (consD ea nilD)) (Enc.enc : Unit → D) lInsert := ⟨fun {Se S H p ws xs vs y Q} sl up sub hH r1 r2 q => by
  obtain ⟨v, us, rfl, r3, r4⟩ := r2.splitE
  obtain ⟨w, us, rfl, r5, r6⟩ := r4.splitE
  obtain ⟨rfl, _⟩ := r6.nilP
  obtain ⟨rfl, _⟩ := Rp.int r3
  obtain ⟨hc, q⟩ := RQ.chk q
  obtain ⟨hc1, hc2, hc3⟩ := of_decide_eq_true hc
  have hl : ws.length = xs.length := by rw [r1.len, List.length_map]
  refine ⟨p, ws, y.1, w, rfl, rfl, hH, by rw [hl]; exact hc1, hc2, hc3, q .non _ ?_ (Rep.non .nil)⟩
  refine rep_app (rep_app (ys := [y.2.1]) ?_ (up w _ r5)) ?_
  · have := r1.take y.1.toNat
    rwa [← List.map_take] at this
  · have := r1.drop y.1.toNat
    rwa [← List.map_drop] at this, fun _ _ => nx_chk⟩
theorem rep_erase {K : PySem.W.Frag} {S : Sh} {H : Hp} : ∀ {xs : List α} {ws : List V} (k : Nat), Rep K S H ws (xs.map ea) Emp → Rep K S H (ws.eraseIdx k) ((xs.eraseIdx k).map ea) Emp
  | [], ws, k, r => by obtain ⟨rfl, _⟩ := r.nilP; exact .nil
  | x :: xs, ws, 0, r => by
    obtain ⟨v, us, rfl, _, r2⟩ := r.splitE
    exact r2
  | x :: xs, ws, k + 1, r => by
    obtain ⟨v, us, rfl, r1, r2⟩ := r.splitE
    exact r1.joinE (rep_erase k r2)
theorem lop_popAt {K : PySem.W.Frag} : LOp K rPopAt ea (a1 eI) ea lPopAt := ⟨fun {Se S H p ws xs vs y Q} sl up sub hH r1 r2 q => by
  obtain ⟨v, us, rfl, r3, r4⟩ := r2.splitE
  obtain ⟨rfl, _⟩ := r4.nilP
  obtain ⟨rfl, _⟩ := Rp.int r3
  obtain ⟨hc, q⟩ := (RQ.bind q).chk
  obtain ⟨k, hk, q⟩ := (RQ.bind q).ofO
  obtain ⟨x, hx, q⟩ := (RQ.bind q).ofO
  obtain ⟨hc1, hc2⟩ := of_decide_eq_true hc
  have hl : ws.length = xs.length := by rw [r1.len, List.length_map]
  obtain ⟨w, hw, rw'⟩ := Rep.getE r1 (i := k) (d := ea x) (by rw [List.getElem?_map, hx]; rfl)
  exact ⟨p, ws, y.1, k, w, rfl, rfl, hH, hc1, hc2, by rw [hl]; exact (L2.ixN_seq hk).1, hw, q w _ (rep_erase k r1) (rw'.frame sl fun _ _ z => z.elim)⟩, fun xs y e h => by
  unfold lPopAt at h
  cases h1 : decide (-(2 ^ 63) ≤ y.1 ∧ y.1 < 2 ^ 63) with
  | false => rw [h1] at h; cases h
  | true =>
    rw [h1] at h
    cases h2 : ixN xs.length y.1 with
    | none => simp [h2] at h
    | some k =>
      cases h3 : xs[k]? with
      | none => simp [h2, h3] at h
      | some x => simp [h2, h3] at h⟩
theorem lop_extend [Enc α] {K : PySem.W.Frag} : LOp K rExtend (Enc.enc : α → D) (a1 (Enc.enc : List α → D)) (Enc.enc : Unit → D) lExtend := ⟨fun {Se S H p ws xs vs y Q} sl up sub hH r1 r2 q => by
  obtain ⟨v, us, rfl, r3, r4⟩ := r2.splitE
  obtain ⟨rfl, _⟩ := r4.nilP
  obtain ⟨hc, q⟩ := RQ.chk q
  obtain ⟨a, zs, P1, rfl, hz, r5, k, _⟩ := Rp.lst sub r3
  have r5 := r5.emp fun x z => k x z
  have hl : ws.length = xs.length := by rw [r1.len, List.length_map]
  have hl2 : zs.length = y.1.length := by rw [r5.len, List.length_map]
  have lift : ∀ {ys : List α} {zs : List V}, Rep K S H zs (ys.map enc) Emp → Rep K Se H zs (ys.map enc) Emp := fun {ys} => by
    induction ys with
    | nil => intro zs r; obtain ⟨rfl, _⟩ := r.nilP; exact .nil
    | cons y ys ih =>
      intro zs r
      obtain ⟨v, us, rfl, h1, h2⟩ := r.splitE
      exact (up v y h1).joinE (ih h2)
  exact ⟨p, a, ws, zs, rfl, rfl, hH, hz, by rw [hl, hl2]; exact of_decide_eq_true hc, q .non _ (rep_app r1 (lift r5)) (Rep.non .nil)⟩, fun _ _ => nx_chk⟩
end
section
variable {X : Cx} {T R α κ : Type} [DecidableEq κ] [KyC κ] [Enc κ] [KyE κ] [Enc α] {l : Lay T} {n : Nat} {W : WX} {mr : Md} {er : R → D} {o e i value : Expr} {pos pos' apos cpos : Pos} {b : Bool} {get : T → Res (Dct κ α)} {set : T → Dct κ α → T} {fk : T → Res κ} {fv : T → OutX T α} {fd : T → Res (Dct κ α)}
theorem drop_val {K : PySem.W.Frag} {S : Sh} {H : Hp} (k : κ) : ∀ {kvs : List (κ × α)} {ws : List V}, Rep K S H ws (vsD kvs) Emp → ∃ ws', dropK ((ksD kvs).zip ws) (KyC.ky k) = (ksD (dropKv kvs k)).zip ws' ∧ Rep K S H ws' (vsD (dropKv kvs k)) Emp
  | [], ws, r => by obtain ⟨rfl, _⟩ := r.nilP; exact ⟨[], rfl, .nil⟩
  | kv :: kvs, ws, r => by
    obtain ⟨v, us, rfl, h1, h2⟩ := Rep.splitE (d := enc kv.2) r
    obtain ⟨ws', e1, e2⟩ := drop_val k h2
    unfold dropK at e1 ⊢
    unfold dropKv at e1 e2 ⊢
    have ez : (ksD (kv :: kvs)).zip (v :: us) = ((KyC.ky kv.1 : Ky), v) :: (ksD kvs).zip us := rfl
    rw [ez, List.filter_cons, List.filter_cons]
    by_cases h : kv.1 = k
    · have h' : (KyC.ky kv.1 : Ky) = KyC.ky k := by rw [h]
      refine ⟨ws', ?_, ?_⟩
      · rw [if_neg (by simp [h']), if_neg (by simp [h])]
        exact e1
      · rw [if_neg (by simp [h])]
        exact e2
    · have h' : ¬ (KyC.ky kv.1 : Ky) = KyC.ky k := fun z => h (KyE.inj _ _ z)
      refine ⟨v :: ws', ?_, ?_⟩
      · rw [if_pos (by simp [h']), if_pos (by simp [h])]
        show _ :: _ = _ :: _
        rw [e1]
        rfl
      · rw [if_pos (by simp [h])]
        exact h1.joinE e2
theorem ks_drop {kvs : List (κ × α)} {k : κ} {q : Ky} (h : q ∈ ksD (dropKv kvs k)) : q ∈ ksD kvs := by
  obtain ⟨p, hp, rfl⟩ := List.mem_map.mp h
  exact List.mem_map.mpr ⟨p, (List.mem_filter.mp hp).1, rfl⟩
/-- d.pop(k), k is there -/
theorem mx_dpop (se : SelE b (Enc.enc : α → D)) (ho : PE X o (tMF b X.K l W (Enc.enc : Dct κ α → D) get set)) (he : PE X e (tME X.K l W (Enc.enc : κ → D) fk)) (m : M1 X o "pop" apos e cpos) : PE X (.Call (.Attribute o "pop" apos) [e] [] cpos) (tMX X.K l W .sh (Enc.enc : α → D) (mutX get set (fun t => (fk t).bind fun k => .ok (k, ())) dPop)) := PE.imp (pe_dpop1 ho he m) fun σ H Q ⟨S, t, P, c, E, q⟩ => ⟨S, t, P, c, E, by
  unfold mutX at q
  cases hg : get t with
  | stuck => rw [hg] at q; exact q
  | ex x => rw [hg] at q; exact fun S' H' cls d g r => q cls d S' H' P (g.grw c) (E.grow g) r
  | ok d =>
    simp only [hg] at q
    intro p S1 H1 g1 fo
    have c1 := c.grow g1
    obtain ⟨ws, hH, hp, kl, r1, bk⟩ := foc_dic fo se c1
    refine ⟨p, rfl, .inl ⟨_, .inl hH⟩, S1, t, P, c1, E.grow g1, ?_⟩
    cases ha : fk t with
    | stuck => simp only [ha] at q; exact q
    | ex x => simp only [ha] at q; exact fun S' H' cls d g2 r => q cls d S' H' P ((g1.trans g2).grw c) ((E.grow g1).grow g2) r
    | ok k =>
      simp only [ha, bind_ok] at q
      intro y S2 H2 g2 ry
      have hH2 := g2.h.dK hH
      have r1' := r1.frame (H' := H2) g2.s.sel fun _ _ z => z.elim
      obtain ⟨rfl, _, _⟩ := KyE.val _ ry
      unfold dPop Dct.get at q
      have hv := val_get k r1'
      cases hk : getK d.kvs k with
      | none => simp only [hk, ofO_none, bind_stuck] at q; exact q.elim
      | some a =>
        simp only [hk, ofO_some, bind_ok] at q
        rw [hk] at hv
        obtain ⟨v, hv, rv⟩ := hv
        obtain ⟨ws', e1, e2⟩ := drop_val k r1'
        refine ⟨_, _, v, hH2, rfl, hv, ?_⟩
        rw [e1]
        obtain ⟨gw, E3⟩ := bk ws' (d.drop k) S2 H2 g2 (kl_of e2 fun q hq => kl.ok q (ks_drop hq)) e2
        exact q v S2 _ P Emp (by rw [or_emp]; exact (g1.grw c).trans gw) E3 (rv.frame (SL.selL b S2) fun _ _ z => z.elim) rfl fun _ _ z => z⟩
/-- d[k] = v, d by its path -/
theorem msx_dput (se : SelE b (Enc.enc : α → D)) (ho : PE X o (tMF b X.K l W (Enc.enc : Dct κ α → D) get set)) (hk : PE X i (tME X.K l W (Enc.enc : κ → D) fk)) (he : PE X value (tMX X.K l W .sh (Enc.enc : α → D) fv)) (hu : X.A.units + 65 < cLine)
    (hs : swapsWith value (some (.Subscript o i pos')) pos.line X.env = pure false := by rfl) : MS X l n W mr er (.Assign [.Subscript o i pos'] value pos) (dputX get set fk fv) :=
  PS.imp (ps_dput (by omega) ho hk he hs) fun D σ H ⟨S, t, P, c, E, hl, q⟩ => ⟨S, t, P, c, E, andX_v hl q fun a t1 q v S1 H1 P1 Pv g E1 rv ov d => by
    have ov : Pv = Emp := ov
    subst ov
    have g := g.orE
    refine ⟨S1, t1, P1, g.cfg, E1, ?_⟩
    cases hg : get t1 with
    | stuck => simp only [hg] at q; exact q
    | ex x => simp only [hg] at q; exact fun S' H' cls d2 g2 r => q cls d2 σ S' H' P1 (g.trans (g2.grw g.cfg)) (E1.grow g2) hl r
    | ok dd =>
      simp only [hg] at q
      intro p S2 H2 g2 fo
      have c2 := g.cfg.grow g2
      obtain ⟨ws, hH, hp, kl, r1, bk⟩ := foc_dic fo se c2
      refine ⟨S2, t1, P1, c2, E1.grow g2, ?_⟩
      cases ha : fk t1 with
      | stuck => simp only [ha] at q; exact q
      | ex x => simp only [ha] at q; exact fun S' H' cls d2 g3 r => q cls d2 σ S' H' P1 (g.trans ((g2.trans g3).grw g.cfg)) ((E1.grow g2).grow g3) hl r
      | ok k =>
        simp only [ha] at q
        intro y S3 H3 g3 ry
        have hH3 := g3.h.dK hH
        have r1' := r1.frame (H' := H3) g3.s.sel fun _ _ z => z.elim
        obtain ⟨rfl, hko, _⟩ := KyE.val _ ry
        by_cases hlen : dd.kvs.length < sizeLn
        · rw [if_pos hlen] at q
          have rv3 : Rp X.K (selS b S3) H3 v (enc a) Emp := se.mv a (rv.frame (g2.s.trans g3.s) fun _ _ z => z.elim)
          obtain ⟨ws', e1, e2⟩ := put_val k r1' rv3
          refine ⟨p, _, rfl, .inl ⟨_, _, hH3, rfl, ?_, rfl⟩, ?_⟩
          · rw [List.length_zip, List.length_map]
            exact Nat.lt_of_le_of_lt (Nat.min_le_left _ _) hlen
          · rw [e1]
            obtain ⟨gw, E3⟩ := bk ws' (dd.put k a) S3 H3 g3 (kl_of e2 fun q hq => (ks_put hq).elim (kl.ok q) fun z => by rw [z]; exact hko) e2
            exact q σ S3 _ P1 ((g.trans (g2.grw g.cfg)).trans gw) E3 hl
        · rw [if_neg hlen] at q
          exact q.elim⟩
/-- d.get(k) -/
theorem me_dgetO (hu : X.A.units + 65 < cLine) (ho : PE X o (tMB X.K l W (Enc.enc : Dct κ α → D) fd)) (he : PE X e (tME X.K l W (Enc.enc : κ → D) fk)) (m : M1 X o "get" apos e cpos) : PE X (.Call (.Attribute o "get" apos) [e] [] cpos) (tME X.K l W (Enc.enc : Option α → D) (op2 dgetO fd fk)) := PE.imp (pe_dget1 (by omega) ho he m) fun σ H Q ⟨S, t, P, c, E, q⟩ =>
  ⟨S, t, P, c, E, q.bind.imp (fun d q x S1 H1 P1 g1 r1 f1 k1 => by
    obtain ⟨p, ws, rfl, h, kl, r⟩ := Rp.dicF g1.sub.le r1 f1
    refine ⟨p, rfl, .inl ⟨_, h⟩, S1, t, P, c.grow g1, E.grow g1, q.bind.imp (fun k q y S2 H2 g2 r2 => ?_) fun _ z => exq_grow z g1⟩
    obtain ⟨a, e1, h⟩ := dget_at g2.sub (r1.grow g2) f1 r2
    cases e1
    have q : ∀ v S' H', Grow l.tabs S H S' H' → Rp X.K S' H' v (enc (d.get k)) Emp → Q v H' := q
    revert h q
    cases d.get k with
    | none => exact fun h q => ⟨none, h, q .non S2 H2 (g1.trans g2) (Rep.non .nil)⟩
    | some z => exact fun ⟨v, h, rv⟩ q => ⟨some v, h, q v S2 H2 (g1.trans g2) rv⟩) fun _ z => z⟩
end
end M

namespace M
open Enc (enc)
open PySem PySem.Spec PyProof.Rows L2 W
/-! ### raise -/
section
variable {X : Cx} {T R α : Type} {l : Lay T} {n : Nat} {W : WX} {mr : Md} {er : R → D} {e : Expr} {pos p p2 : Pos}
theorem exrel0 {K : PySem.W.Frag} {c : Str} {S : Sh} : ExRel K ⟨c, none⟩ (.ref (He.ga K c)) none S := ⟨rfl, rfl⟩
/-- raise C('..') -/
theorem ms_raise0 {c : Str} (hc : X.calm = true) (tk : Takes X W) (he : PMk X e (fun _ H Q => Q (.ref (He.ga X.K c)) none H)) : MS X l n W mr er (.Raise (some e) none pos) (raiseS fun _ => .ok ⟨c, none⟩) := PS.imp (ps_raise hc tk he) fun D σ H ⟨S, t, P, cf, E, hl, q⟩ =>
  (show OQ X.K l n W mr er S H P D (.ex ⟨c, none⟩ t) from q) _ none σ S H P (.refl cf) E hl exrel0
/-- C.__init__(self, ..), C's own class under ValueError, without an __init__ of its own -/
structure ClsVe (K : PySem.W.Frag) (C : Addr) : Prop where
  rd : ClX.CRead K C (.type "type")
  at_ : PySem.W.findCls K (.ref C) (.type "type") "__init__" = some (.val (.builtin "ValueError.__init__"))
def clsVeB (x : Str) (K : PySem.W.Frag) : Bool := PySem.W.readsIn K (He.ga K x) (.type "type") && (decide (PySem.W.specialIn K (.ref (He.ga K x)) "__getattribute__" = some (some (.builtin "type.__getattribute__"))) &&
  match PySem.W.findCls K (.ref (He.ga K x)) (.type "type") "__init__" with
    | some (.val (.builtin a)) => decide (a = "ValueError.__init__")
    | _ => false)
theorem clsVe_ok {K : PySem.W.Frag} {x : Str} (h : clsVeB x K = true) : ClsVe K (He.ga K x) := by
  obtain ⟨h1, h⟩ := He.ba h
  obtain ⟨h2, h3⟩ := He.ba h
  refine ⟨⟨h1, of_decide_eq_true h2⟩, ?_⟩
  split at h3
  · rename_i a e
    rw [e, of_decide_eq_true h3]
  · cases h3
theorem pe_veinitC {x : Str} {C : Addr} {e : Expr} {es : List Expr} {ta : TA} {p1 p2 pos : Pos} {pl : Sem Bool} (c : ClsVe X.K C) (hg : Gl X x) (hm : X.mg x = some (.ref C)) (ha : PA X (e :: es) ta) (hdb : (x == ("__debug__" : Str)) = false := by decide)
    (hc : eval (.Call (.Attribute (.Name x p1) "__init__" p2) (e :: es) [] pos) X.env = (do
      let ov ← eval (.Name x p1) X.env
      standAt p2.atName
      let (f, first) ← holding [ov] (getMethod ov "__init__" pl)
      callWith pos f first (backTo pos (starEach (e :: es) X.env)) (backToKw pos (keywordEach [] X.env))) := by rfl)
    (he : starEach (e :: es) X.env = (false, eval e X.env) :: starEach es X.env := by rfl) (hpl : (backTo pos (starEach es X.env)).any (·.1) = false := by rfl) :
    PE X (.Call (.Attribute (.Name x p1) "__init__" p2) (e :: es) [] pos) (tVeI X.K ta) := by
  refine ⟨fun pins s σ H Q I h => ?_⟩
  refine PySem.W.methodCall_KW (ld_glob I hg hm ?_ hdb) hc
  refine PySem.W.method_cls I.kIn c.rd.ga ?_
  refine PySem.W.cls_value I.kIn c.rd.rd c.at_ rfl ?_
  show wpAny _ _ (callWith pos (Value.builtin "ValueError.__init__") [] (backTo pos (starEach (e :: es) X.env)) []) _ _ _
  refine PyProof.Rows.callWith_method1 (thn (ha.run pos pins _ σ H _ (I.tok _) h) fun us s1 ⟨vs, H1, I1, r1, a, C, ws, ev, hl, T, ea, q⟩ => ?_) he hpl
  subst ev
  cases r1 with
  | @cons _ u0 _ ur ra rw' =>
    obtain rfl : u0 = Value.ref a := ra
    have hlen : ur.length ≤ sizeLine := by
      rw [← Paired.length rw', sizeLine_eq]
      omega
    exact oinit_ok T I1 ea hlen fun s' J => ⟨.non, H1, J, rfl, q⟩
/-- what such an __init__ promises: it stores the name -/
def spXI (K : PySem.W.Frag) (C : Addr) : Sp := fun vs H Q _ => ∃ (a : Addr) (z : Str), vs = [.ref a, .str z] ∧ H a = some (exo a C none) ∧ ∀ dx, H dx = none → dx ≠ a → Q .non (upd (upd H dx (exd dx [("name", .str z)])) a (exo a C (some dx)))
structure ExcI (K : PySem.W.Frag) (C fI : Addr) : Prop where
  o : OexC K C
  iC : PySem.W.findIn K (.ref C) "__init__" = some (some (.ref fI))
  tI : PySem.W.typeIn K (.ref fI) = some (.type "function")
  no : PySem.W.findIn K (.ref C) "name" = some none
def oexB (C : Addr) (K : PySem.W.Frag) : Bool := match K.lookup C with
  | some ⟨.type "type", _, .cls cd, sl⟩ => (match cd.mro, sl.toList with
    | .ref C' :: bm, [_, _, _, _, some (.builtin n), _] => C' == C && n == "ValueError.__new__" && !cd.hasDel && cd.hasDict && PySem.HandSPX.refsVE bm
    | _, _ => false)
  | _ => false
theorem oexB_ok {K : PySem.W.Frag} {C : Addr} (q : oexB C K = true) : ∃ nm q N bs bm sn sub ab col dd k0 k1 k2 k3 k5, K.lookup C = some (excClassObj nm q C N bs bm true sn sub ab col dd k0 k1 k2 k3 k5 "ValueError.__new__") ∧ PySem.HandSPX.refsVE bm = true := by
  unfold oexB at q
  split at q
  · rename_i dd cd sl ho
    split at q
    · rename_i C' bm k0 k1 k2 k3 n k5 hm hs
      simp only [Bool.and_eq_true, beq_iff_eq, Bool.not_eq_true'] at q
      obtain ⟨⟨⟨⟨rfl, rfl⟩, hdel⟩, hd⟩, ht⟩ := q
      obtain ⟨nm, bs, mro, ns, qn, hd', sn, sub, ab, col, del⟩ := cd
      dsimp only at hm hdel hd
      subst hm hdel hd
      have hsl : sl = #[k0, k1, k2, k3, some (.builtin "ValueError.__new__"), k5] := by
        obtain ⟨l⟩ := sl
        simp only at hs
        rw [hs]
      subst hsl
      exact ⟨nm, qn, ns, bs, bm, sn, sub, ab, col, dd, k0, k1, k2, k3, k5, ho, ht⟩
    · cases q
  · cases q
def excIB (x : Str) (K : PySem.W.Frag) : Bool := decide (PySem.W.findIn K (.ref (He.ga K x)) "__init__" = some (some (.ref (He.fAd K (x, some "__init__"))))) && (decide (PySem.W.typeIn K (.ref (He.fAd K (x, some "__init__"))) = some (.type "function")) &&
  (decide (PySem.W.findIn K (.ref (He.ga K x)) "name" = some none) && (decide (PySem.W.findIn K (.ref (He.ga K x)) "__setattr__" = some (some (.builtin "object.__setattr__"))) && (decide (PySem.W.subIn K (.ref (He.ga K x)) (.type "BaseException") = some true) &&
  (decide (PySem.W.typeIn K (.ref (He.ga K x)) = some (.type "type")) && (PySem.W.keepIn K (.ref (He.ga K x)) && oexB (He.ga K x) K))))))
theorem excI_ok {K : PySem.W.Frag} {x : Str} (h : excIB x K = true) : ExcI K (He.ga K x) (He.fAd K (x, some "__init__")) := by
  obtain ⟨h1, h⟩ := He.ba h
  obtain ⟨h2, h⟩ := He.ba h
  obtain ⟨h3, h⟩ := He.ba h
  obtain ⟨h4, h⟩ := He.ba h
  obtain ⟨h5, h⟩ := He.ba h
  obtain ⟨h6, h⟩ := He.ba h
  obtain ⟨h7, h8⟩ := He.ba h
  exact ⟨⟨oexB_ok h8, of_decide_eq_true h4, of_decide_eq_true h5, of_decide_eq_true h6, h7⟩, of_decide_eq_true h1, of_decide_eq_true h2, of_decide_eq_true h3⟩
/-- the reading of B.__init__(self, '..'); self.name = name -/
theorem excInit_rd {K : PySem.W.Frag} {C fI : Addr} {vs : List V} {H : Hp} {Q : VK} {E : XK} {m : Str} (EI : ExcI K C fI) (h : spXI K C vs H Q E) : 
    (fun (D : Ends) (σ : L2.St) (H : Hp) => (tVeI K (tCons (tVar 0) (tCons (tC (.str m)) tNil))) σ H fun _ H1 => tOst K "name" (tVar 0) (tVar 1) D σ H1) { nx := fun _ H' => Q .non H', rt := Q } (vs.map some) H := by
  obtain ⟨a, z, rfl, ha, q⟩ := h
  exact ⟨.ref a, rfl, a, C, [.str m], rfl, (by show 1 ≤ 1000; decide), EI.o, ha, .str z, rfl, .ref a, rfl, a, C, rfl, EI.o, EI.no, .inl ⟨ha, q⟩⟩
/-- raise C(e), C with such an __init__ -/
theorem ms_raiseN {c x : Str} {fI : Addr} {k : Nat} {fd : FuncData} {ps : List Str} {e : Expr} {f : T → Res Str} (EI : ExcI X.K (He.ga X.K c) fI) (hc : X.calm = true) (tk : Takes X W) (F : FnOk X.prog X.w X.K X.mg X.base L2.CX0 k fI fd ps (spXI X.K (He.ga X.K c))) (hr : Room (k + 1) X.A) (hb : Binds X.K fd ps []) (hg : Gl X x) (hm : X.mg x = some (.ref (He.ga X.K c))) (he : PE X e (tME X.K l W eT f))
    (hdb : (x == ("__debug__" : Str)) = false := by decide) (hse : starEach (e :: []) X.env = (false, eval e X.env) :: starEach [] X.env := by rfl) (hpl : (backTo pos (starEach [] X.env)).any (·.1) = false := by rfl) : MS X l n W mr er (.Raise (some (.Call (.Name x p) [e] [] pos)) none p2) (raiseS (op1 (fun s => .ok ⟨c, some s⟩) f)) :=
  PS.imp (ps_raise hc tk (pmk_oex EI.o EI.iC EI.tI F hr hb .nil pass0 hg hm (pa_cons he pa_nil hse) hdb hse hpl)) fun D σ H ⟨S, t, P, cf, E, hl, q⟩ => ⟨S, t, P, cf, E, by
  unfold raiseS op1 at q
  cases hf : f t with
  | stuck => rw [hf] at q; exact q
  | ex y => rw [hf] at q; exact ex_of cf E hl q
  | ok z =>
    rw [hf] at q
    intro v S1 H1 g rv
    obtain ⟨rfl, _, hz⟩ := Rp.str rv
    refine ⟨(by show 1 ≤ 1000; decide), fun a ha => ⟨a, z, rfl, upd_same, fun dx hdx ne => ⟨rfl, dx, [("name", .str z)], upd_same, ?_, ?_, ?_⟩⟩⟩
    · rw [upd_ne ne, upd_same]
    · rw [upd_ne ne] at hdx; exact hdx
    · rw [upd_ne ne] at hdx
      have sn : SameN H1 (upd (del (upd (upd (upd H1 a (exo a (He.ga X.K c) none)) dx (exd dx [("name", .str z)])) a (exo a (He.ga X.K c) (some dx))) a) dx (.xd [("name", .str z)])) := by
        refine ⟨fun x o _ e => ?_, fun {x} e => ?_⟩
        · have n1 : x ≠ dx := fun z => by rw [z, hdx] at e; cases e
          have n2 : x ≠ a := fun z => by rw [z, ha] at e; cases e
          rw [upd_ne n1, del_ne n2, upd_ne n2, upd_ne n1, upd_ne n2]
          exact e
        · by_cases n1 : x = dx
          · rw [n1]; exact hdx
          · rw [upd_ne n1] at e
            by_cases n2 : x = a
            · rw [n2]; exact ha
            · rw [del_ne n2, upd_ne n2, upd_ne n1, upd_ne n2] at e
              exact e
      have sm : Same H1 (upd (del (upd (upd (upd H1 a (exo a (He.ga X.K c) none)) dx (exd dx [("name", .str z)])) a (exo a (He.ga X.K c) (some dx))) a) dx (.xd [("name", .str z)])) := fun x o e => by
        have n1 : x ≠ dx := fun z => by rw [z, hdx] at e; cases e
        have n2 : x ≠ a := fun z => by rw [z, ha] at e; cases e
        rw [upd_ne n1, del_ne n2, upd_ne n2, upd_ne n1, upd_ne n2]
        exact e
      have n1 : S1 dx = none := by
        cases e : S1 dx with
        | none => rfl
        | some o => rw [g.sub dx o e] at hdx; cases hdx
      have g1 := g.sub.same sm
      have g2 : Grow l.tabs S1 H1 (S1.upd dx (.xd [("name", .str z)])) _ := ⟨⟨fun x o e => by
        have n2 : x ≠ dx := fun y => by rw [y, n1] at e; cases e
        exact (upd_ne n2).trans e, fun _ _ e => e⟩, rfl, sn, ⟨fun x o e => by
        by_cases n2 : x = dx
        · rw [n2] at e ⊢
          rw [upd_same]
          exact upd_same.symm.trans e
        · exact g1.le x o ((upd_ne n2).symm.trans e), fun x ps e => by
        by_cases n2 : x = dx
        · rw [n2] at e
          have e := upd_same.symm.trans e
          cases e
        · exact g1.nt x ps ((upd_ne n2).symm.trans e), g1.tb⟩, fun x o e => by
        by_cases n2 : x = dx
        · rw [n2]; exact .inr hdx
        · exact .inl ⟨o, (upd_ne n2).symm.trans e⟩⟩
      have gg := g.trans g2
      exact (show OQ X.K l n W mr er S H P D (.ex ⟨c, some z⟩ t) from q) _ (some dx) σ _ _ P (gg.grw cf) (E.grow gg) hl ⟨rfl, dx, rfl, upd_same, hz⟩⟩
end
end M

namespace M
open Enc (enc)
open PySem PySem.Spec PyProof.Rows L2 W
/-! ### try .. except, several clauses, each with a name or none -/
def goD (oi : Option Nat) (D : Ends) : Ends := match oi with
  | none => D
  | some i => { nx := fun σ' H' => D.nx (σ'.set i none) H', rt := D.rt, bk := fun σ' H' => D.bk (σ'.set i none) H', ct := fun σ' H' => D.ct (σ'.set i none) H' }
def goS (oi : Option Nat) (a : Addr) (σ : L2.St) : L2.St := match oi with
  | none => σ
  | some i => σ.set i (some (.ref a))
def wM (K : PySem.W.Frag) (Wout : WX) (D : Ends) : List (Value × Option Nat × (Addr → Value → Option Addr → TS)) → WX
  | [] => Wout
  | (c, oi, ts) :: r => fun cls d σ H => ∃ b, PySem.W.exmOne K cls c = some b ∧ (b = true → ∀ a, H a = none → ts a cls d (goD oi D) (goS oi a σ) H) ∧ (b = false → wM K Wout D r cls d σ H)
inductive HdsM (X : Cx) : List ExceptHandler → List (Value × Option Nat × (Addr → Value → Option Addr → TS)) → Prop
  | nil : HdsM X [] []
  | cons {x : Str} {c : Value} {ts : Addr → Value → Option Addr → TS} {b₀ : Stmt} {suite : List Stmt} {np pos' : Pos} {hds : List ExceptHandler} {l : List (Value × Option Nat × (Addr → Value → Option Addr → TS))} (hc : Names X x c)
      (hsu : ∀ (a : Addr) (oe : Obj) (cls : Value) (d : Option Addr) (pn : List (Addr × Obj)), Zc cls d oe → (∃ vs, oe.data = .fields vs) → PSs (X.suite a ((a, oe) :: pn)) (b₀ :: suite) (ts a cls d)) (r : HdsM X hds l) :
      HdsM X (.ExceptHandler (some (.Name x np)) none (b₀ :: suite) pos' :: hds) ((c, none, ts) :: l)
  | as_ {x n : Str} {i : Nat} {c : Value} {ts : Addr → Value → Option Addr → TS} {b₀ : Stmt} {suite : List Stmt} {np pos' : Pos} {hds : List ExceptHandler} {l : List (Value × Option Nat × (Addr → Value → Option Addr → TS))} (hN : X.N.Nodup) (hi : X.N[i]? = some n) (hln : X.env.kindOf n = some .local) (hc : Names X x c)
      (hsu : ∀ (a : Addr) (oe : Obj) (cls : Value) (d : Option Addr) (pn : List (Addr × Obj)), Zc cls d oe → (∃ vs, oe.data = .fields vs) → PSs (X.suite a ((a, oe) :: pn)) (b₀ :: suite) (ts a cls d)) (r : HdsM X hds l) :
      HdsM X (.ExceptHandler (some (.Name x np)) (some n) (b₀ :: suite) pos' :: hds) ((c, some i, ts) :: l)
section
variable {X : Cx} {body : List Stmt} {h₀ : ExceptHandler} {hds : List ExceptHandler} {l : List (Value × Option Nat × (Addr → Value → Option Addr → TS))} {pos : Pos} {tb : WX → TS} {Wout : WX}
theorem ps_tryM (hs : X.stack = X.env :: X.outer) (hf : X.env.frame = some X.env.locals) (tk : Takes X Wout)
    (hb : ∀ (W : WX) (pn : List (Addr × Obj)) (xe : Value → Shared → Prop), Takes (X.tr pn xe) W → PassesOwn (model X.prog X.w) X.A X.env xe → PSs (X.tr pn xe) body (tb W))
    (hh : HdsM X (h₀ :: hds) l) : PS X (.Try body (h₀ :: hds) [] [] pos) (fun D σ H => tb (wM X.K Wout D l) D σ H) := by
  refine ⟨fun pins s σ H D I h => ?_⟩
  have ok := I.ok
  have hfr : X.A.frames = some (X.env :: X.outer) := by rw [ok.frames, hs]
  refine wpAny_Try_except ?_
  refine wpAny_mono ((hb (wM X.K Wout D l) (X.pn ++ pins) (fun e s₁ => wpAny (model X.prog X.w) X.A (noteFrame e X.env) (fun _ s₂ => wpAny (model X.prog X.w) X.A (setFlight e none) (fun _ s₃ =>
    wpAny (model X.prog X.w) X.A (handleBy e X.env (h₀ :: hds)) (SP X pins D) X.xe s₃) X.xe s₂) X.xe s₁) (fun u s' xx => ?_) PassesOwn.looking).run [] s σ H D (I.toTry _) h) (fun f s1 hsp => ?_) (fun e s1 he => he)
  · obtain ⟨a, B, sI, pins', σ', H', cls, d, rfl, J', nb, up, sky, na, os, ag, w⟩ := xx
    have J : Inv X pins σ' H' sI := J'.ofTry ok
    have sky' : Sky B (X.env :: X.outer) a (Zc cls d) X.env.locals s'.heap := by rw [← hs]; exact sky
    show wpAny (model X.prog X.w) X.A (noteFrame (.ref a) X.env) _ _ _
    refine Sky.land Zc.steady hfr hf sky' fun h3 fl3 up3 => ?_
    have J3 : Inv X pins σ' H' { s' with heap := h3 } := J.landed nb fl3.1 (up.trans up3) os ag
    obtain ⟨oe3, vs3, he3, hz3, hd3⟩ := fl3.there
    have notFr : ∀ {h : Heap} {o : Obj} {vs : Array Value}, h.FunFrames B (X.env :: X.outer) → h.get? a = some o → o.data = .fields vs → a ∉ frs (X.env :: X.outer) := fun {h o vs} ff e dd hm => by
      obtain ⟨_, o', e', hnf⟩ := ff.mem hm
      rw [e] at e'; cases e'
      exact hnf _ dd
    have nfr := notFr fl3.2.2.1 he3 hd3
    have nL : a ≠ X.env.locals := fun z => nfr (List.mem_filterMap.mpr ⟨X.env, List.mem_cons_self, by rw [hf, z]⟩)
    have nF : a ∉ X.fs := fun hm => by
      obtain ⟨e, he, q⟩ := List.mem_filterMap.mp hm
      exact nfr (List.mem_filterMap.mpr ⟨e, List.mem_cons_of_mem _ he, q⟩)
    have S3 := J3.suite he3 hd3 na nL nF
    have LT : PySem.W.Looks (model X.prog X.w) h3 (typeOf (.ref a)) cls := fun A Q E s k q => wpAny_typeOf_ref (k _ _ he3) (by rw [hz3.1]; exact q)
    have go : ∀ {hds' : List ExceptHandler} {l' : List (Value × Option Nat × (Addr → Value → Option Addr → TS))}, HdsM X hds' l' → wM X.K Wout D l' cls d σ' H' →
        wpAny (model X.prog X.w) X.A (handleBy (.ref a) X.env hds') (SP X pins D) X.xe { s' with heap := h3 } := by
      intro hds' l' hk
      induction hk with
      | nil =>
        intro w
        refine wpAny_handleBy_nil ?_
        obtain ⟨k1, k2, k3, oe, vs, T, oT, ts', he, hz, hd, h1, hr⟩ := id fl3
        unfold PySem.passOn
        refine wpAny_bind (wpAny_field he hd h1 ?_)
        rw [if_neg (show ¬ ((Value.ref T == Value.none) = true) from by simp)]
        have fin : wpAny (model X.prog X.w) X.A (setFlight (.ref a) X.env.frame) (fun _ s4 => wpAny (model X.prog X.w) X.A (throw (.ref a) : Sem Flow) (SP X pins D) X.xe s4) X.xe { s' with heap := h3 } := by
          rw [hf]
          refine HandSPX.setFlight_upZ fl3 fun h4 hh4 up4 => wpAny_throw (tk _ _ ?_)
          exact ⟨a, B, sI, pins, σ', H', cls, d, rfl, J, nb, (up.trans up3).trans up4, .inr (.inr (by rw [hs]; exact hh4)), na, os, ag, w⟩
        first
          | exact wpAny_bind (wpAny_pure (wpAny_bind fin))
          | exact wpAny_bind fin
      | @cons x c ts b₀ suite np pos' hds2 l2 hc hsu r ih =>
        intro w
        obtain ⟨b, hb1, hyes, hno⟩ := w
        refine wpAny_handleBy_cons (codeAny_handlers_test ?_) (by intro q; cases q)
        have LM := PySem.W.exm_one (M := model X.prog X.w) (J3.kIn) LT hb1
        have test : ∀ {Q : Value → Shared → Prop} {E : Value → Shared → Prop}, Q c { s' with heap := h3 } → wpAny (model X.prog X.w) (X.A.mark (some (.ref a))) (eval (.Name x np) X.env) Q E { s' with heap := h3 } := fun {Q E} q => by
          obtain ⟨hg, hdbg, hm | ⟨hm, hv, hnn⟩⟩ := hc
          · exact ld_glob (X := X.suite a ((a, oe3) :: (X.pn ++ pins))) S3 hg hm q hdbg
          · exact ld_blt (X := X.suite a ((a, oe3) :: (X.pn ++ pins))) S3 hg hm hv q hnn hdbg
        refine test (LM.here ?_)
        cases b with
        | true =>
          refine codeAny_handlers_suite ?_
          refine HandSPX.lands_againZ fl3 fun h4 fl4 up4 => ?_
          have J4 : Inv X pins σ' H' { s' with heap := h4 } := J.landed nb fl4.1 ((up.trans up3).trans up4) os ag
          obtain ⟨oe4, vs4, he4, hz4, hd4⟩ := fl4.there
          have S4 := J4.suite he4 hd4 na nL nF
          refine wpAny_mono ((hsu a oe4 cls d (X.pn ++ pins) hz4 ⟨_, hd4⟩).run [] _ _ H' _ S4 (hyes rfl a na)) (fun f s6 hsp => ?_) (fun _ _ z => False.elim z)
          cases f with
          | next =>
            obtain ⟨σ6, H6, S6, q6⟩ := hsp
            exact ⟨_, _, S6.unsuite ok, q6⟩
          | brk =>
            obtain ⟨σ6, H6, S6, q6⟩ := hsp
            exact ⟨_, _, S6.unsuite ok, q6⟩
          | cont =>
            obtain ⟨σ6, H6, S6, q6⟩ := hsp
            exact ⟨_, _, S6.unsuite ok, q6⟩
          | ret u =>
            obtain ⟨v6, σ6, H6, S6, r6, q6⟩ := hsp
            exact ⟨_, _, _, S6.unsuite ok, r6, q6⟩
        | false =>
          show wpAny _ X.A (handleBy (.ref a) X.env hds2) _ _ _
          exact ih (hno rfl)
      | @as_ x n i c ts b₀ suite np pos' hds2 l2 hN hi hln hc hsu r ih =>
        intro w
        have hloc : Loc X.env.scope n := .inl hln
        obtain ⟨b, hb1, hyes, hno⟩ := w
        refine wpAny_handleBy_cons (codeAny_handlers_test ?_) (by intro q; cases q)
        have LM := PySem.W.exm_one (M := model X.prog X.w) (J3.kIn) LT hb1
        have test : ∀ {Q : Value → Shared → Prop} {E : Value → Shared → Prop}, Q c { s' with heap := h3 } → wpAny (model X.prog X.w) (X.A.mark (some (.ref a))) (eval (.Name x np) X.env) Q E { s' with heap := h3 } := fun {Q E} q => by
          obtain ⟨hg, hdbg, hm | ⟨hm, hv, hnn⟩⟩ := hc
          · exact ld_glob (X := X.suite a ((a, oe3) :: (X.pn ++ pins))) S3 hg hm q hdbg
          · exact ld_blt (X := X.suite a ((a, oe3) :: (X.pn ++ pins))) S3 hg hm hv q hnn hdbg
        refine test (LM.here ?_)
        cases b with
        | true =>
          refine codeAny_handlers_suite_as ?_
          refine HandSPX.lands_againZ fl3 fun h4 fl4 up4 => ?_
          have J4 : Inv X pins σ' H' { s' with heap := h4 } := J.landed nb fl4.1 ((up.trans up3).trans up4) os ag
          obtain ⟨oe4, vs4, he4, hz4, hd4⟩ := fl4.there
          have S4 := J4.suite he4 hd4 na nL nF
          refine store_ok (X := X.suite a ((a, oe4) :: (X.pn ++ pins))) (v := .ref a) S4 hN hi hloc rfl (fun s5 S5 => ?_) (.inr hln)
          refine wpAny_mono ((hsu a oe4 cls d (X.pn ++ pins) hz4 ⟨_, hd4⟩).run [] s5 _ H' _ S5 (hyes rfl a na)) (fun f s6 hsp => ?_) (fun _ _ z => False.elim z)
          have end_ : ∀ {σ6 : L2.St} {H6 : Hp} {Q : Shared → Prop}, Inv (X.suite a ((a, oe4) :: (X.pn ++ pins))) [] σ6 H6 s6 → (∀ s7, Inv X pins (σ6.set i none) H6 s7 → Q s7) →
              wpAny (model X.prog X.w) X.A (do bindName X.env n .none; unbindBehindTheSuite X.env n pos') (fun _ s7 => Q s7) X.xe s6 := fun {σ6 H6 Q} S6 hq => gone_ok (S6.unsuite ok) hN hi hln hq
          cases f with
          | next =>
            obtain ⟨σ6, H6, S6, q6⟩ := hsp
            exact end_ S6 fun s7 J7 => ⟨_, _, J7, q6⟩
          | brk =>
            obtain ⟨σ6, H6, S6, q6⟩ := hsp
            exact end_ S6 fun s7 J7 => ⟨_, _, J7, q6⟩
          | cont =>
            obtain ⟨σ6, H6, S6, q6⟩ := hsp
            exact end_ S6 fun s7 J7 => ⟨_, _, J7, q6⟩
          | ret u =>
            obtain ⟨v6, σ6, H6, S6, r6, q6⟩ := hsp
            exact end_ S6 fun s7 J7 => ⟨_, _, _, J7, r6, q6⟩
        | false =>
          show wpAny _ X.A (handleBy (.ref a) X.env hds2) _ _ _
          exact ih (hno rfl)
    exact go hh w
  · cases f with
    | next =>
      obtain ⟨σ', H', J', q⟩ := hsp
      exact wpAny_execs_nil ⟨σ', H', J'.ofTry ok, q⟩
    | brk =>
      obtain ⟨σ', H', J', q⟩ := hsp
      exact ⟨σ', H', J'.ofTry ok, q⟩
    | cont =>
      obtain ⟨σ', H', J', q⟩ := hsp
      exact ⟨σ', H', J'.ofTry ok, q⟩
    | ret u =>
      obtain ⟨v, σ', H', J', r, q⟩ := hsp
      exact ⟨v, σ', H', J'.ofTry ok, r, q⟩
end
/-! over the mirrors -/
/-- how a caught exception's name stands: what its own dict tells is shared -/
def exD (a : Addr) (d : Option Addr) (e : Exn) : D := match d, e.arg with
  | some dd, some n => .exo a dd n
  | _, _ => .adr a
section
variable {X : Cx} {T R α : Type} {l : Lay T} {n : Nat} {W : WX} {mr : Md} {er : R → D} {pos : Pos} {F : T → Out T R}
/-- a suite without a name: whatever the exception -/
def tSu (K : PySem.W.Frag) (l : Lay T) (n : Nat) (W : WX) (mr : Md) (er : R → D) (G : Exn → T → Out T R) : TS := fun D σ H => ∃ e : Exn, tMS K l n W mr er (G e) D σ H
def tSuAs (K : PySem.W.Frag) (l : Lay T) (n i : Nat) (W : WX) (mr : Md) (er : R → D) (G : Exn → Option Unit × T → Out (Option Unit × T) R) (a : Addr) (cls : Value) (d : Option Addr) : TS := fun D σ H => ∃ e : Exn, (cls = .ref (He.ga K e.cls) ∧ e.arg.isSome = d.isSome) ∧ tMS K (.cons i .sh (fun _ : Unit => exD a d e) l) n W mr er (G e) D σ H
theorem PSs.ex1 {ι : Type} {sts : List Stmt} {t : ι → TS} (h : ∀ i, PSs X sts (t i)) : PSs X sts (fun D σ H => ∃ i, t i D σ H) := ⟨fun pins s σ H D I ⟨i, z⟩ => (h i).run pins s σ H D I z⟩
theorem PSs.ex2 {ι : Type} {sts : List Stmt} {t : ι → TS} {p : ι → Prop} (h : ∀ i, p i → PSs X sts (t i)) : PSs X sts (fun D σ H => ∃ i, p i ∧ t i D σ H) := ⟨fun pins s σ H D I ⟨i, y, z⟩ => (h i y).run pins s σ H D I z⟩
/-- a clause over the mirrors: its class, its test -/
inductive HdsT (X : Cx) {T R : Type} (l : Lay T) (n : Nat) (W : WX) (mr : Md) (er : R → D) : List (Hdl T R) → List (Value × Option Nat × (Addr → Value → Option Addr → TS)) → Prop
  | nil : HdsT X l n W mr er [] []
  | cons {test : List (Str × Bool)} {G : Exn → T → Out T R} {c : Value} {hs : List (Hdl T R)} {ls : List (Value × Option Nat × (Addr → Value → Option Addr → TS))} (ht : ∀ x b, test.lookup x = some b → PySem.W.exmOne X.K (.ref (He.ga X.K x)) c = some b) (r : HdsT X l n W mr er hs ls) :
      HdsT X l n W mr er (⟨test, G⟩ :: hs) ((c, none, fun _ _ _ => tSu X.K l n W mr er G) :: ls)
  | as_ {test : List (Str × Bool)} {i : Nat} {G : Exn → Option Unit × T → Out (Option Unit × T) R} {c : Value} {hs : List (Hdl T R)} {ls : List (Value × Option Nat × (Addr → Value → Option Addr → TS))} (ht : ∀ x b, test.lookup x = some b → PySem.W.exmOne X.K (.ref (He.ga X.K x)) c = some b) (hi : decide (i < n) = true) (hno : l.no i = true) (r : HdsT X l n W mr er hs ls) :
      HdsT X l n W mr er (⟨test, asSu G⟩ :: hs) ((c, some i, fun a cls d => tSuAs X.K l n i W mr er G a cls d) :: ls)
theorem Env.drop {β : Type} {K : PySem.W.Frag} {S : Sh} {H : Hp} {σ : L2.St} {i : Nat} {en : β → D} {x : Option β} {t : T} {P : FP} (E : Env K S H σ (.cons i .sh en l) (x, t) P) : Env K S H σ l t P := by
  cases x with
  | none => exact E
  | some b =>
    obtain ⟨v, P1, P2, _, _, o, e2, _, rfl⟩ := E
    have o : P1 = Emp := o
    subst o
    rw [emp_or]
    exact e2
theorem Env.dropN {β : Type} {K : PySem.W.Frag} {S : Sh} {H : Hp} {σ : L2.St} {i : Nat} {en : β → D} {x : Option β} {t : T} {P : FP} (hno : l.no i = true) (E : Env K S H σ (.cons i .sh en l) (x, t) P) : Env K S H (σ.set i Option.none) l t P := Env.set_no hno (Env.drop E)
theorem try_go {K : PySem.W.Frag} {hs : List (Hdl T R)} {ls : List (Value × Option Nat × (Addr → Value → Option Addr → TS))} (hK : K = X.K) (ht : HdsT X l n W mr er hs ls) {e : Exn} {t' : T} {cls : Value} {d : Option Addr} {σ' : L2.St} {S S' : Sh} {H H' : Hp} {P P' : FP} {D : Ends} (g : Grw l.tabs S H P S' H' P') (E' : Env X.K S' H' σ' l t' P') (hl' : σ'.length = n) (x : ExRel X.K e cls d S') (q : OQ X.K l n W mr er S H P D (tryGo hs e t')) : wM X.K W D ls cls d σ' H' := by
  induction ht with
  | nil => exact (show OQ X.K l n W mr er S H P D (.ex e t') from q) cls d σ' S' H' P' g E' hl' x
  | @cons test G c' hs ls htt r ih =>
    unfold tryGo at q
    cases hb : test.lookup e.cls with
    | none => simp only [hb] at q; exact q.elim
    | some b =>
      simp only [hb] at q
      refine ⟨b, by rw [x.1]; exact htt _ _ hb, fun e1 a ha => ?_, fun e1 => ?_⟩
      · subst e1
        exact ⟨e, S', t', P', g.cfg, E', hl', OQ.trans q g⟩
      · subst e1
        exact ih q
  | @as_ test i G c' hs ls htt hi hno r ih =>
    unfold tryGo at q
    cases hb : test.lookup e.cls with
    | none => simp only [hb] at q; exact q.elim
    | some b =>
      simp only [hb] at q
      refine ⟨b, by rw [x.1]; exact htt _ _ hb, fun e1 a ha => ?_, fun e1 => ?_⟩
      · subst e1
        have hil : i < σ'.length := by rw [hl']; exact of_decide_eq_true hi
        have rx : Rp X.K S' H' (.ref a) (exD a d e) Emp := by
          have x2 := x.2
          unfold exD
          cases ea : e.arg with
          | none =>
            cases d <;> exact Rep.adr a .nil
          | some nm =>
            rw [ea] at x2
            obtain ⟨dx, rfl, hx, ho⟩ := x2
            exact Rep.exo a dx nm hx ho .nil
        have E2 : Env X.K S' H' (σ'.set i (some (.ref a))) (.cons i .sh (fun _ : Unit => exD a d e) l) (some (), t') P' := by
          have e3 := Env.set_no (w := some (.ref a)) hno E'
          exact ⟨.ref a, Emp, P', List.getElem?_set_self hil, rx, rfl, e3, fun _ z => z.elim, emp_or.symm⟩
        refine ⟨e, ⟨x.1, ?_⟩, S', (some (), t'), P', g.cfg, E2, (by show (σ'.set i (some (.ref a))).length = n; rw [List.length_set]; exact hl'), ?_⟩
        · have x2 := x.2
          cases ea : e.arg with
          | none => rw [ea] at x2; have x2 : d = none := x2; rw [x2]; rfl
          | some nm => rw [ea] at x2; obtain ⟨dx, rfl, _⟩ := x2; rfl
        · replace q := OQ.trans q g
          unfold asSu at q
          have sl : ∀ {σ2 : L2.St}, σ2.length = n → (σ2.set i Option.none).length = n := fun h => by rw [List.length_set]; exact h
          cases hG : G e (some (), t') with
          | nx t2 => rw [hG] at q; exact fun σ2 S2 H2 P2 g2 E2 hl2 => q _ S2 H2 P2 g2 (Env.dropN hno E2) (sl hl2)
          | bk t2 => rw [hG] at q; exact fun σ2 S2 H2 P2 g2 E2 hl2 => q _ S2 H2 P2 g2 (Env.dropN hno E2) (sl hl2)
          | ct t2 => rw [hG] at q; exact fun σ2 S2 H2 P2 g2 E2 hl2 => q _ S2 H2 P2 g2 (Env.dropN hno E2) (sl hl2)
          | rt r t2 => rw [hG] at q; exact fun v σ2 S2 H2 P2 Pr g2 E2 => q v _ S2 H2 P2 Pr g2 (Env.drop E2)
          | ex y t2 => rw [hG] at q; exact fun cls2 d2 σ2 S2 H2 P2 g2 E2 hl2 => q cls2 d2 σ2 S2 H2 P2 g2 (Env.drop E2) hl2
          | stuck => rw [hG] at q; exact q
      · subst e1
        exact ih q
theorem ms_try {body : List Stmt} {h₀ : ExceptHandler} {hds : List ExceptHandler} {hs : List (Hdl T R)} {ls : List (Value × Option Nat × (Addr → Value → Option Addr → TS))} (h1 : X.stack = X.env :: X.outer) (h2 : X.env.frame = some X.env.locals) (tk : Takes X W)
    (hb : ∀ (W' : WX) (pn : List (Addr × Obj)) (xe : Value → Shared → Prop), Takes (X.tr pn xe) W' → PassesOwn (model X.prog X.w) X.A X.env xe → MSs (X.tr pn xe) l n W' mr er body F)
    (hm : HdsM X (h₀ :: hds) ls) (ht : HdsT X l n W mr er hs ls) : MS X l n W mr er (.Try body (h₀ :: hds) [] [] pos) (tryS F hs) := PS.imp (ps_tryM (tb := fun W' => tMS X.K l n W' mr er F) h1 h2 tk hb hm) fun D σ H ⟨S, t, P, c, E, hl, q⟩ => ⟨S, t, P, c, E, hl, by
  unfold tryS at q
  cases hF : F t with
  | nx t' => rw [hF] at q; exact q
  | rt r t' => rw [hF] at q; exact q
  | bk t' => rw [hF] at q; exact q
  | ct t' => rw [hF] at q; exact q
  | stuck => rw [hF] at q; exact q
  | ex e t' =>
    rw [hF] at q
    exact fun cls d σ' S' H' P' g E' hl' x => try_go rfl ht g E' hl' x q⟩
end
end M

namespace M
open Enc (enc)
open PySem PySem.Spec PyProof.Rows L2 W
/-! ### a dict locked while its views are walked -/
def NDk (o : HO) : Prop := (∀ k, o ≠ .dK k) ∧ ∀ b k, o ≠ .frz b (.dK k)
/-- alike but for one dict, locked or not -/
structure Lk (d : Addr) (S S2 : Sh) (H H2 : Hp) : Prop where
  mu : S2.mu = S.mu
  rd : ∀ p k, Rd S.h p (.dK k) → Rd S2.h p (.dK k)
  ot : ∀ x o, NDk o → S x = some o → S2 x = some o
  hp : ∀ x, x ≠ d → H2 x = H x
section
variable {ω T α β : Type} {K : PySem.W.Frag} {S S' S2 : Sh} {H H' H2 : Hp} {vs : List V} {ds : List D} {v : V} {P : FP} {σ : L2.St} {l : Lay T} {τ : TL} {d : Addr} {kvs : List (Key × V)} {u f : HO}
theorem Lk.seqL {p : Addr} {ws : List V} (L : Lk d S S2 H H2) (h : SqL K S p ws) : SqL K S2 p ws := h.imp (fun h => h.imp (fun h => L.ot _ _ ⟨(fun _ z => nomatch z), (fun _ _ z => nomatch z)⟩ h) fun ⟨o, h⟩ => ⟨o, L.ot _ _ ⟨(fun _ z => nomatch z), (fun _ _ z => nomatch z)⟩ h⟩) id
theorem Lk.seqT {p : Addr} {ws : List V} (L : Lk d S S2 H H2) (h : SqT K S p ws) : SqT K S2 p ws := h.imp (fun h => h.imp (fun h => L.ot _ _ ⟨(fun _ z => nomatch z), (fun _ _ z => nomatch z)⟩ h) fun ⟨o, h⟩ => ⟨o, L.ot _ _ ⟨(fun _ z => nomatch z), (fun _ _ z => nomatch z)⟩ h⟩) id
theorem Lk.tup (L : Lk d S S2 H H2) : Lk d S.tup S2.tup H H2 := ⟨L.mu, fun p k h => by
  rcases h with h | ⟨_, h⟩ <;> (obtain ⟨_, ⟨_, e⟩ | ⟨_, _, e⟩⟩ := Sh.tup_eq h <;> cases e), fun x o n h => by
  obtain ⟨h, ⟨_, rfl⟩ | ⟨_, _, rfl⟩⟩ := Sh.tup_eq h
  · exact Sh.tup_of (L.ot _ _ n h)
  · exact Sh.tup_of2 (L.ot _ _ n h), L.hp⟩
theorem Rep.lk (L : Lk d S S2 H H2) (r : Rep K S H vs ds P) : ¬ P d → Rep K S2 H2 vs ds P := by
  induction r with
  | nil => exact fun _ => .nil
  | non _ ih => exact fun n => .non (ih n)
  | bl b _ ih => exact fun n => .bl b (ih n)
  | int b _ ih => exact fun n => .int b (ih n)
  | str b o _ ih => exact fun n => .str b o (ih n)
  | gl b _ ih => exact fun n => .gl b (ih n)
  | ty b _ ih => exact fun n => .ty b (ih n)
  | adr b _ ih => exact fun n => .adr b (ih n)
  | hnd b e _ ih => exact fun n => .hnd b (by rw [L.mu]; exact e) (ih n)
  | exo a dx z e o _ ih => exact fun n => .exo a dx z (L.ot _ _ ⟨(fun _ z => nomatch z), (fun _ _ z => nomatch z)⟩ e) o (ih n)
  | shl h _ _ i1 i2 => exact fun n => .shl (L.ot _ _ ⟨(fun _ z => nomatch z), (fun _ _ z => nomatch z)⟩ h) (i1 id) (i2 n)
  | scr h _ _ i1 i2 => exact fun n => .scr (L.seqL h) (i1 id) (i2 n)
  | shd h l _ _ i1 i2 => exact fun n => .shd (L.rd _ _ h) l (i1 id) (i2 n)
  | sht h l _ _ i1 i2 => exact fun n => .sht (L.ot _ _ ⟨(fun _ z => nomatch z), (fun _ _ z => nomatch z)⟩ h) l (i1 id) (i2 n)
  | sho h l _ _ i1 i2 => exact fun n => .sho (L.ot _ _ ⟨(fun _ z => nomatch z), (fun _ _ z => nomatch z)⟩ h) l (i1 id) (i2 n)
  | owl h _ _ n1 n2 dj i1 i2 => exact fun n => .owl ((L.hp _ fun e => n (.inl e.symm)).trans h) (i1 fun z => n (.inr (.inl z))) (i2 fun z => n (.inr (.inr z))) n1 n2 dj
  | tup h _ _ np dj i1 i2 => exact fun n => .tup (L.seqT h) (i1 fun z => n (.inl z)) (i2 fun z => n (.inr z)) np dj
  | dic h l _ _ n1 n2 dj i1 i2 => exact fun n => .dic ((L.hp _ fun e => n (.inl e.symm)).trans h) l (i1 fun z => n (.inr (.inl z))) (i2 fun z => n (.inr (.inr z))) n1 n2 dj
  | dit h l _ _ n1 n2 dj i1 i2 => exact fun n => .dit ((L.hp _ fun e => n (.inl e.symm)).trans h) l (i1 fun z => n (.inr (.inl z))) (i2 fun z => n (.inr (.inr z))) n1 n2 dj
  | obj h l _ _ n1 n2 dj i1 i2 => exact fun n => .obj ((L.hp _ fun e => n (.inl e.symm)).trans h) l (i1 fun z => n (.inr (.inl z))) (i2 fun z => n (.inr (.inr z))) n1 n2 dj
theorem WOk.lk {en : ω → D} {w : List ω} (L : Lk d S S2 H H2) (h : WOk K S H en w P) (n : ¬ P d) : WOk K S2 H2 en w P := ⟨by
  obtain ⟨Ps, h1, h2, h3, h4⟩ := h.ex
  refine ⟨Ps, fun i o e => ?_, fun i e => by rw [L.mu]; exact h2 i e, h3, h4⟩
  obtain ⟨a, ha, r, hp⟩ := h1 i o e
  exact ⟨a, by rw [L.mu]; exact ha, r.lk L.tup fun z => n ((h4 d).mpr ⟨i, z⟩), hp⟩⟩
theorem WSh.lk {en : ω → D} {w : List ω} (L : Lk d S S2 H H2) (h : WSh K S H en w) : WSh K S2 H2 en w := ⟨fun i o e => by
  obtain ⟨a, ha, r⟩ := h.at_ i o e
  exact ⟨a, by rw [L.mu]; exact ha, r.lk L id⟩⟩
theorem Env.lk (L : Lk d S S2 H H2) : ∀ {T : Type} {l : Lay T} {t : T} {P : FP}, Env K S H σ l t P → ¬ P d → Env K S2 H2 σ l t P
  | _, .nil _, _, _, e, _ => e
  | _, .rwd _ en, w, _, e, _ => ⟨WSh.lk L e.1, e.2⟩
  | _, .wld _ en, w, _, e, n => WOk.lk L (show WOk K S H en w _ from e) n
  | _, .cons _ _ _ l, (Option.none, t), _, e, n => Env.lk L (l := l) (t := t) e n
  | _, .cons i _ en l, (some a, t), _, e, n => by
    obtain ⟨v, P1, P2, h, r, o, e2, dj, rfl⟩ := e
    exact ⟨v, P1, P2, h, r.lk L fun z => n (.inl z), o, Env.lk L e2 fun z => n (.inr z), dj, rfl⟩
/-- the dict at d as u -/
theorem lk_upd (h : Rd S.h d (.dK kvs)) (hu : u = .dK kvs ∨ ∃ o, u = .frz o (.dK kvs)) : Lk d S (S.upd d u) H (upd H d u) := by
  have hr : Rd (S.upd d u).h d (.dK kvs) := hu.elim (fun e => .inl (e ▸ upd_same)) fun ⟨o, e⟩ => .inr ⟨o, e ▸ upd_same⟩
  refine ⟨rfl, fun p k e => ?_, fun x o n e => ?_, fun x e => upd_ne e⟩
  · by_cases hp : p = d
    · subst hp
      have : k = kvs := by
        rcases h with h | ⟨b, h⟩ <;> rcases e with e | ⟨b', e⟩ <;> (have e := h.symm.trans e; cases e <;> rfl)
      rw [this]; exact hr
    · exact e.imp (fun e => (upd_ne hp).trans e) fun ⟨o, e⟩ => ⟨o, (upd_ne hp).trans e⟩
  · have hx : x ≠ d := fun z => by
      subst z
      rcases h with h | ⟨b, h⟩ <;> (have e := h.symm.trans e; cases e)
      · exact n.1 _ rfl
      · exact n.2 _ _ rfl
    exact (upd_ne hx).trans e
theorem do_frz {o : Obj} : DO (.frz o (.dK kvs)) := ⟨(fun _ z => nomatch z), (fun _ z => nomatch z)⟩
theorem Cfg.lk {od : Obj} (c : Cfg τ S H P) (h : S d = some (.dK kvs)) : Cfg τ (S.upd d (.frz od (.dK kvs))) (upd H d (.frz od (.dK kvs))) P := by
  have ne : ∀ x, P x → x ≠ d := fun x hx e => by
    have := c.sep x hx
    rw [e, h] at this
    cases this
  refine ⟨⟨fun x o e => ?_, fun x ps e => ?_, tabs_upd c.sub.tb (c.sub _ _ h) .dK⟩, fun x hx => (upd_ne (ne x hx)).trans (c.sep x hx), fun x hx => by rw [upd_ne (ne x hx)]; exact c.inh x hx⟩
  · by_cases hx : x = d
    · subst hx
      have e := upd_same.symm.trans e
      cases e
      exact upd_same
    · exact (upd_ne hx).trans (c.sub x o ((upd_ne hx).symm.trans e))
  · by_cases hx : x = d
    · subst hx
      have e := upd_same.symm.trans e
      cases e
    · exact c.sub.nt x ps ((upd_ne hx).symm.trans e)
/-- unlocked again -/
theorem Grow.unlk {od : Obj} (c : Sub τ S H) (h : S d = some (.dK kvs)) (g : Grow τ (S.upd d (.frz od (.dK kvs))) (upd H d (.frz od (.dK kvs))) S' H') :
    S' d = some (.frz od (.dK kvs)) ∧ H' d = some (.frz od (.dK kvs)) ∧ Grow τ S H (S'.upd d (.dK kvs)) (upd H' d (.dK kvs)) := by
  have e1 : S' d = some (.frz od (.dK kvs)) := g.s _ _ upd_same
  have e2 := g.sub _ _ e1
  refine ⟨e1, e2, ⟨fun x o e => ?_, fun i a e => g.s.mu i a e⟩, g.mu, ⟨fun x o n e => ?_, fun {x} e => ?_⟩, ⟨fun x o e => ?_, fun x ps e => ?_, tabs_upd g.sub.tb e2 do_frz⟩, fun x o e => ?_⟩
  · by_cases hx : x = d
    · subst hx; rw [h] at e; cases e; exact upd_same
    · exact (upd_ne hx).trans (g.s x o ((upd_ne hx).trans e))
  · by_cases hx : x = d
    · subst hx; rw [c _ _ h] at e; cases e; exact upd_same
    · exact (upd_ne hx).trans (g.h.at_ x o n ((upd_ne hx).trans e))
  · have hx : x ≠ d := fun z => by rw [z, upd_same] at e; cases e
    have e := (upd_ne hx).symm.trans (g.h.free ((upd_ne hx).symm.trans e))
    exact e
  · by_cases hx : x = d
    · subst hx
      have e := upd_same.symm.trans e
      cases e; exact upd_same
    · exact (upd_ne hx).trans (g.sub x o ((upd_ne hx).symm.trans e))
  · by_cases hx : x = d
    · subst hx
      have e := upd_same.symm.trans e
      cases e
    · exact g.sub.nt x ps ((upd_ne hx).symm.trans e)
  · by_cases hx : x = d
    · exact .inl ⟨_, by rw [hx]; exact h⟩
    · rcases g.new x o ((upd_ne hx).symm.trans e) with ⟨u, z⟩ | z
      · exact .inl ⟨u, (upd_ne hx).symm.trans z⟩
      · exact .inr ((upd_ne hx).symm.trans z)
end
/-! expressions that tell where their dict lies -/
structure Adr {T α : Type} (X : Cx) (l : Lay T) (e : Expr) (en : α → D) (f : T → Res α) (ad : Sh → Hp → L2.St → T → Addr → Prop) : Prop where
  rep : ∀ {S : Sh} {H : Hp} {σ : L2.St} {t : T} {P : FP} {a : α}, Cfg l.tabs S H P → Env X.K S H σ l t P → f t = .ok a → ∃ p, ad S H σ t p ∧ Rp X.K S H (.ref p) (en a) Emp
  run : PE X e (fun σ H Q => ∃ S t P a p, Cfg l.tabs S H P ∧ Env X.K S H σ l t P ∧ f t = .ok a ∧ ad S H σ t p ∧ ∀ S1 H1, Grow l.tabs S H S1 H1 → Q (.ref p) H1)
  lk : ∀ {S S2 : Sh} {H H2 : Hp} {σ : L2.St} {t : T} {p d : Addr}, ad S H σ t p → Lk d S S2 H H2 → (∃ o, H d = some o ∧ ¬ NDk o) → ad S2 H2 σ t p
  nx : ∀ t, NoX (f t)
  fn : ∀ {S : Sh} {H : Hp} {σ : L2.St} {t : T} {p q : Addr}, ad S H σ t p → ad S H σ t q → p = q
def adV {T : Type} (i : Nat) : Sh → Hp → L2.St → T → Addr → Prop := fun _ _ σ _ p => σ[i]? = some (some (.ref p))
theorem Rp.dicR {K : PySem.W.Frag} {S : Sh} {H : Hp} {v : V} {ks : List Ky} {es : List D} {P : FP} (r : Rp K S H v (.dic ks es) P) : ∃ p, v = .ref p := by cases r <;> exact ⟨_, rfl⟩
theorem ofO_nx {α : Type} {o : Option α} : NoX (Res.ofO o) := by cases o with
  | none => exact fun _ z => nomatch z
  | some a => exact nx_ok
theorem adr_var {X : Cx} {T κ α : Type} [KyC κ] [Enc α] {l : Lay T} {e : Expr} {i : Nat} {get : T → Option (Dct κ α)} (hv : PE X e (tVar i)) (q : Get l i .sh (Enc.enc : Dct κ α → D) get) : Adr X l e (Enc.enc : Dct κ α → D) (fun t => .ofO (get t)) (adV i) := ⟨fun {S H σ t P a} c E h => by
  cases hg : get t with
  | none => rw [hg] at h; cases h
  | some b =>
    rw [hg] at h
    cases h
    obtain ⟨v, P1, h1, r, o, _⟩ := q.get E hg
    have o : P1 = Emp := o
    subst o
    obtain ⟨p, rfl⟩ := Rp.dicR r
    exact ⟨p, h1, r⟩, PE.imp hv fun σ H Q ⟨S, t, P, a, p, c, E, h, had, k⟩ => ⟨_, had, k S H (.refl c.sub)⟩, fun h _ _ => h, fun _ => ofO_nx, fun {_ _ _ _ p q} (h : _ = _) (k : _ = _) => by rw [h] at k; cases k; rfl⟩
section
variable {X : Cx} {ω T κ α β : Type} [KyC κ] [Enc κ] [KyE κ] [Enc α] {l : Lay T} {n : Nat} {W : WX} {e iter tg elt : Expr} {ea : α → D} {eb : β → D} {m : Md} {en : β → D} {fd : T → Res (Dct κ α)} {ad : Sh → Hp → L2.St → T → Addr → Prop} {pos apos cpos : Pos} {B : Sh → Hp → L2.St → T → Prop}
/-- the dict is locked -/
def lkd (ad : Sh → Hp → L2.St → T → Addr → Prop) : Sh → Hp → L2.St → T → Prop := fun S H σ t => ∃ p od kvs, ad S H σ t p ∧ S p = some (.frz od (.dK kvs))
def tMOB (B : Sh → Hp → L2.St → T → Prop) (K : PySem.W.Frag) (l : Lay T) (W : WX) (m : Md) (en : β → D) (f : T → Res β) : TE := fun σ H Q => ∃ S t P, B S H σ t ∧ Cfg l.tabs S H P ∧ Env K S H σ l t P ∧ RQ (f t) (fun a => ∀ v S' H' P1, Grow l.tabs S H S' H' → Rp K S' H' v (en a) P1 → m.ok v P1 → (∀ x, P1 x → H x = none ∧ S' x = none) → Q v H') (ExQ K l.tabs W S H σ)
def tMIB {α : Type} (B : Sh → Hp → L2.St → T → Prop) (K : PySem.W.Frag) (l : Lay T) (W : WX) (sh : Bool) (ea : α → D) (f : T → Res (List α)) : TI := fun σ H R => ∃ S t P, B S H σ t ∧ Cfg l.tabs S H P ∧ Env K S H σ l t P ∧ RQ (f t) (fun xs => ∀ J S1 H1 Pw, Grow l.tabs S H S1 H1 → Wk l.tabs K S1 H1 Pw ea xs J → (sh = true → Pw = Emp) → (∀ x, Pw x → P x) → R J H1) (ExQ K l.tabs W S H σ)
theorem PE.or {t1 t2 : TE} (h1 : PE X e t1) (h2 : PE X e t2) : PE X e (fun σ H Q => t1 σ H Q ∨ t2 σ H Q) := ⟨fun pins s σ H Q I z => z.elim (fun z => h1.run pins s σ H Q I z) fun z => h2.run pins s σ H Q I z⟩
theorem lock_O {m : Md} {en : β → D} {F : T → Res β} (a : Adr X l iter (Enc.enc : Dct κ α → D) fd ad) (h : PE X e (tMOB (lkd ad) X.K l W m en F)) (hF : ∀ t, F t = (fd t).bind fun _ => F t) (hx : ∀ t, NoX (F t)) : PE X e (tMO X.K l W m en F) := PE.imp (PE.or (pe_lock h) h) fun σ H Q ⟨S, t, P, c, E, q⟩ => by
  obtain ⟨dd, hd⟩ : ∃ dd, fd t = .ok dd := by
    cases hd : fd t with
    | ok dd => exact ⟨dd, rfl⟩
    | ex x => have := a.nx t; rw [hd] at this; exact (this x rfl).elim
    | stuck =>
      have e := hF t
      rw [hd] at e
      rw [e] at q
      exact q.elim
  obtain ⟨p, hp, r⟩ := a.rep c E hd
  obtain ⟨p', ws, P1, e1, h1, kl, r1, _, ⟨h2, _⟩ | ⟨z, _⟩⟩ := Rp.dic c.sub.le r
  case inr => exact z.elim
  cases e1
  rcases h2 with h2 | ⟨od, h2⟩
  · have c2 := c.sub _ _ h2
    refine .inl ⟨p, _, c2, trivial, fun od => ?_⟩
    have L : Lk p S (S.upd p (.frz od (.dK _))) H (upd H p (.frz od (.dK _))) := lk_upd (.inl h2) (.inr ⟨od, rfl⟩)
    have np : ¬ P p := fun z => by have := c.sep p z; rw [h2] at this; cases this
    refine ⟨_, t, P, ⟨p, od, _, a.lk hp L ⟨_, c2, fun z => z.1 _ rfl⟩, upd_same⟩, c.lk h2, E.lk L np, RQ.nox (RQ.imp q (fun b q v S' H' P1 g r o nw => ?_) fun _ z => z) (hx t) |>.imp (fun _ z => z) fun _ z => z.elim⟩
    obtain ⟨e1, e2, g2⟩ := Grow.unlk c.sub h2 g
    have nP : ∀ x, P1 x → x ≠ p := fun x z y => by
      have := (nw x z).2
      rw [y, e1] at this
      cases this
    refine ⟨e2, q v _ _ P1 g2 (r.lk (lk_upd (.inr ⟨od, e1⟩) (.inl rfl)) fun z => nP p z rfl) o fun x z => ⟨?_, ?_⟩⟩
    · exact (upd_ne (nP x z)).symm.trans (nw x z).1
    · exact (upd_ne (nP x z)).trans (nw x z).2
  · exact .inr ⟨S, t, P, ⟨p, od, _, hp, h2⟩, c, E, q⟩
/-- o.f, what it shares -/
def adF (fo : T → Res Hn) (f : Str) : Sh → Hp → L2.St → T → Addr → Prop := fun S H _ t p => ∃ h a C dx fs, fo t = .ok h ∧ S.mu h.i = some a ∧ H a = some (.ins C dx fs) ∧ fs.lookup f = some (.ref p)
theorem adr_fld [Wd ω] {o : Expr} {f : Str} {cs : List Str} {gw : T → List ω} {get : ω → Option (Dct κ α)} {fo : T → Res Hn} (wr : Wr true l (encW : ω → D) gw) (fl : Fld cs f (Enc.enc : Dct κ α → D) get) (hc : ∀ c ∈ cs, ClA X.K f c) (ho : PE X o (tME X.K l W0 eH fo)) (hnx : ∀ t, NoX (fo t)) (hb : attributeBase o f X.env (eval o X.env) = eval o X.env := by rfl) :
    Adr X l (.Attribute o f pos) (Enc.enc : Dct κ α → D) (fldF gw get fo) (adF fo f) := ⟨fun {S H σ t P a} c E h => by
  unfold fldF at h
  cases hf : fo t with
  | stuck => rw [hf] at h; cases h
  | ex x => exact (hnx t x hf).elim
  | ok hh =>
    rw [hf] at h
    have h : Res.ofO ((gw t)[hh.i]?.bind get) = .ok a := h
    cases e : (gw t)[hh.i]?.bind get with
    | none => rw [e] at h; cases h
    | some b =>
      rw [e] at h
      cases h
      obtain ⟨ob, h1, h2⟩ := Option.bind_eq_some_iff.mp e
      obtain ⟨q, P1, hq, _⟩ := wr.rd E h1
      obtain ⟨C, dx, fs, v, P2, k1, _, _, k2, r, _, k3⟩ := fld_q wr fl hc c E hq e
      have k3 : P2 = Emp := k3 rfl
      subst k3
      obtain ⟨p, rfl⟩ := Rp.dicR r
      exact ⟨p, ⟨hh, q, C, dx, fs, hf, hq, k1, k2⟩, r⟩,
  PE.imp (pe_fld ho hb) fun σ H Q ⟨S, t, P, a, p, c, E, h, ⟨hh, q, C, dx, fs, hf, hq, k1, k2⟩, k⟩ => ⟨S, t, P, c, E, by
    rw [hf]
    intro v S1 H1 g r
    obtain ⟨q', rfl, hq', _⟩ := Rp.hnd r
    have e1 := g.s.mu _ _ hq
    rw [e1] at hq'
    cases hq'
    have hC : Cls X.K C ∧ NoAttr X.K C f := by
      unfold fldF at h
      rw [hf] at h
      have h : Res.ofO ((gw t)[hh.i]?.bind get) = .ok a := h
      cases e : (gw t)[hh.i]?.bind get with
      | none => rw [e] at h; cases h
      | some b =>
        obtain ⟨C', dx', fs', v', P2, k1', c1, c2, _⟩ := fld_q wr fl hc c E hq e
        rw [k1] at k1'
        cases k1'
        exact ⟨c1, c2⟩
    exact ⟨q, C, dx, fs, _, rfl, g.h.at_ _ _ (fun _ z => nomatch z) k1, hC.1, hC.2, k2, k S1 H1 g⟩⟩,
  fun {S S2 H H2 σ t p d} ⟨hh, q, C, dx, fs, hf, hq, k1, k2⟩ L ⟨o, ho, n⟩ => ⟨hh, q, C, dx, fs, hf, by rw [L.mu]; exact hq, by
    rw [L.hp q fun z => n (by rw [z, ho] at k1; cases k1; exact ⟨(fun _ z => nomatch z), (fun _ _ z => nomatch z)⟩)]
    exact k1, k2⟩,
  fun t => by
    unfold fldF
    cases hf : fo t with
    | stuck => exact fun _ z => nomatch z
    | ex x => exact (hnx t x hf).elim
    | ok hh => exact ofO_nx,
  fun {S H σ t p p2} ⟨hh, q, C, dx, fs, hf, hq, k1, k2⟩ ⟨hh', q', C', dx', fs', hf', hq', k1', k2'⟩ => by
    rw [hf] at hf'; cases hf'
    rw [hq] at hq'; cases hq'
    rw [k1] at k1'; cases k1'
    rw [k2] at k2'; cases k2'; rfl⟩
/-- what is walked, under the lock -/
theorem lk_dat {σ : L2.St} {S : Sh} {H : Hp} {t : T} {P : FP} {γ : Type} {G : Dct κ α → γ} {okk : γ → Prop} {ex : Exn → Prop} (a : Adr X l e (Enc.enc : Dct κ α → D) fd ad) (b : lkd ad S H σ t) (c : Cfg l.tabs S H P) (E : Env X.K S H σ l t P) (q : RQ ((fd t).bind fun d => .ok (G d)) okk ex) :
    ∃ d p od ws, fd t = .ok d ∧ ad S H σ t p ∧ S p = some (.frz od (.dK ((ksD d.kvs).zip ws))) ∧ KL (ksD d.kvs) ws ∧ Rep X.K S H ws (vsD d.kvs) Emp ∧ okk (G d) := by
  obtain ⟨p, od, kv, hp, h2⟩ := b
  cases hd : fd t with
  | stuck => rw [hd] at q; exact q.elim
  | ex x => exact (a.nx t x hd).elim
  | ok d =>
    rw [hd] at q
    obtain ⟨p', hp', r⟩ := a.rep c E hd
    cases a.fn hp hp'
    obtain ⟨p2, ws, e1, h, kl, r1⟩ := Rp.dicF c.sub.le r (.inl rfl)
    cases e1
    have h3 := c.sub _ _ h2
    rcases h with h | ⟨o2, h⟩
    · rw [h3] at h; cases h
    · rw [h3] at h
      cases h
      exact ⟨d, p, od, ws, rfl, hp, h2, kl, r1, q⟩
theorem zip_at {kvs : List (κ × α)} {ws : List V} {i : Nat} {k : Key} {v : V} {K : PySem.W.Frag} {S : Sh} {H : Hp} (hi : i < kvs.length) (r : Rep K S H ws (vsD kvs) Emp) (h : ((ksD kvs).zip ws)[i]? = some (k, v)) : k = KyC.ky kvs[i].1 ∧ Rp K S H v (enc kvs[i].2) Emp := by
  obtain ⟨h1, h2⟩ := List.getElem?_zip_eq_some.mp h
  refine ⟨?_, ?_⟩
  · have h1 : (kvs.map fun kv => (KyC.ky kv.1 : Ky))[i]? = some k := h1
    rw [List.getElem?_map, List.getElem?_eq_getElem hi] at h1
    cases h1
    rfl
  · obtain ⟨w, e1, e2⟩ := Rep.getE r (i := i) (d := enc kvs[i].2) (by rw [show vsD kvs = kvs.map (fun kv => enc kv.2) from rfl, List.getElem?_map, List.getElem?_eq_getElem hi]; rfl)
    rw [h2] at e1
    cases e1
    exact e2
theorem mi_items {elts : List Expr} {kk : Nat} {tpos : Pos} (a : Adr X l e (Enc.enc : Dct κ α → D) fd ad) (hbase : attributeBase e "items" X.env (eval e X.env) = eval e X.env := by rfl) (hline : (apos.endLine == cpos.line) = true := by rfl) :
    PI X (.Tuple elts kk tpos) (.Call (.Attribute e "items" apos) [] [] cpos) (tMIB (lkd ad) X.K l W true (Enc.enc : T2 κ α → D) (fun t => (fd t).bind fun d => .ok (d.kvs.map fun kv => ⟨kv.1, kv.2⟩))) := PI.imp (pi_items a.run hbase hline) fun σ H R ⟨S, t, P, b, c, E, q⟩ => by
  obtain ⟨d, p, od, ws, hd, hp, h2, kl, r, q⟩ := lk_dat a b c E q
  have hlen : ((ksD d.kvs).zip ws).length = d.kvs.length := by
    rw [List.length_zip, ← kl.len, Nat.min_self]; exact List.length_map ..
  refine ⟨S, t, P, d, p, c, E, hd, hp, fun S1 H1 g => ⟨p, od, _, rfl, g.sub _ _ (g.s _ _ h2), q _ S1 H1 Emp g ⟨fun s sb _ => ⟨sb _ _ (s _ _ (g.s _ _ h2)), ?_⟩, fun hi s sb _ => ⟨sb _ _ (s _ _ (g.s _ _ h2)), ?_⟩, fun {i S' H' H2 x} hi s sb _ y => ?_⟩ (fun _ => rfl) fun _ z => z.elim⟩⟩
  · rw [hlen, List.length_map]; exact Nat.le_refl _
  · rw [hlen]; rw [List.length_map] at hi; exact hi
  · obtain ⟨T', k, v, hk, rfl, hT, rfl⟩ := y
    rw [List.length_map] at hi
    have r' : Rep X.K S' H' ws (vsD d.kvs) Emp := (r.grow g).frame s fun _ _ z => z.elim
    obtain ⟨rfl, rv⟩ := zip_at hi r' hk
    have gl := Grow.lay (o := .tup [kV (KyC.ky d.kvs[i].1), v]) sb hT
    refine ⟨_, gl, ?_⟩
    have ok : kOk (KyC.ky d.kvs[i].1 : Ky) = true := kl.ok _ (List.mem_map.mpr ⟨d.kvs[i], List.getElem_mem _, rfl⟩)
    rw [List.getElem_map]
    exact (Rep.tup (.of (show (S'.upd T' (.tup [kV (KyC.ky d.kvs[i].1), v])) T' = _ from upd_same)) (((KyE.rep d.kvs[i].1 ok).joinE rv).grow gl) .nil (fun z => z) fun _ z => z.elim).emp fun x z => z.elim id id
theorem mi_vals (a : Adr X l e (Enc.enc : Dct κ α → D) fd ad) (hbase : attributeBase e "values" X.env (eval e X.env) = eval e X.env := by rfl) (hline : (apos.endLine == cpos.line) = true := by rfl) :
    PI X tg (.Call (.Attribute e "values" apos) [] [] cpos) (tMIB (lkd ad) X.K l W true (Enc.enc : α → D) (fun t => (fd t).bind fun d => .ok (d.kvs.map fun kv => kv.2))) := PI.imp (pi_values a.run hbase hline) fun σ H R ⟨S, t, P, b, c, E, q⟩ => by
  obtain ⟨d, p, od, ws, hd, hp, h2, kl, r, q⟩ := lk_dat a b c E q
  have hlen : ((ksD d.kvs).zip ws).length = d.kvs.length := by
    rw [List.length_zip, ← kl.len, Nat.min_self]; exact List.length_map ..
  refine ⟨S, t, P, d, p, c, E, hd, hp, fun S1 H1 g => ⟨p, od, _, rfl, g.sub _ _ (g.s _ _ h2), q _ S1 H1 Emp g ⟨fun s sb _ => ⟨sb _ _ (s _ _ (g.s _ _ h2)), ?_⟩, fun hi s sb _ => ⟨sb _ _ (s _ _ (g.s _ _ h2)), ?_⟩, fun {i S' H' H2 x} hi s sb _ y => ?_⟩ (fun _ => rfl) fun _ z => z.elim⟩⟩
  · rw [hlen, List.length_map]; exact Nat.le_refl _
  · rw [hlen]; rw [List.length_map] at hi; exact hi
  · obtain ⟨rfl, k, hk⟩ := y
    rw [List.length_map] at hi
    have r' : Rep X.K S' H2 ws (vsD d.kvs) Emp := (r.grow g).frame s fun _ _ z => z.elim
    obtain ⟨rfl, rv⟩ := zip_at hi r' hk
    refine ⟨S', .refl sb, ?_⟩
    rw [List.getElem_map]
    exact rv
end
section
variable {X : Cx} {T α β κ γ : Type} [KyC κ] [Enc κ] [KyE κ] [Enc γ] {l : Lay T} {n : Nat} {W : WX} {iter tg elt e : Expr} {ea : α → D} {eb : β → D} {f : T → Res (List α)} {pos : Pos} {p : T → α → T} {sh : Bool} {ifs : List Expr} {scope : Scope} {own : List (Str × Nat)} {w : T → T} {c : T → Res Bool} {h : T → Res β} {en : List β → D} {fd : T → Res (Dct κ γ)} {ad : Sh → Hp → L2.St → T → Addr → Prop}
theorem lcE_nx {t : T} (hf : NoX (f t)) : NoX (lcE f w p c h t) := by
  unfold lcE
  cases e : f t with
  | stuck => exact fun _ z => nomatch z
  | ex x => exact (hf x e).elim
  | ok xs =>
    dsimp only [bind_ok]
    cases e2 : lcR xs (fun a => c (p (w t) a)) (fun a => h (p (w t) a)) with
    | stuck => exact fun _ z => nomatch z
    | ex x => exact (lcR_nox x e2).elim
    | ok ys =>
      show NoX (sizeL ys)
      unfold sizeL Res.chk
      split
      · exact nx_ok
      · exact fun _ z => nomatch z
/-- a comprehension over a dict's view -/
theorem mo_lcL {G : Dct κ γ → List α} (a : Adr X l e (Enc.enc : Dct κ γ → D) fd ad) (hc : X.calm = true) (hN : X.N.Nodup) (hn : X.N.length = n) (hen : ∀ xs, en xs = .lst (xs.map eb)) (hi : PI X tg iter (tMIB (lkd ad) X.K l W sh ea (fun t => (fd t).bind fun d => .ok (G d)))) (ok : BlkOk X.N X.env.scope scope own) (wp : Wip l (own.map (·.2)) w)
    (hg : ∀ (s : Shared) (H : Hp) (C : Addr) (cl : List (Str × Addr)) (fp : List Addr), PG (X.blk s H scope (compEnvC scope cl C X.env) fp) tg (tMG X.K l n (own.map (·.2)) ea p)) (ht : ∀ (s : Shared) (H : Hp) (C : Addr) (cl : List (Str × Addr)) (fp : List Addr), PTs (X.blk s H scope (compEnvC scope cl C X.env) fp) ifs (tMT X.K l W0 c))
    (he : ∀ (s : Shared) (H : Hp) (C : Addr) (cl : List (Str × Addr)) (fp : List Addr), PE (X.blk s H scope (compEnvC scope cl C X.env) fp) elt (tME X.K l W0 eb h)) (hs : ∀ x, foldedSetIterable iter X.env x = pure x := by intro _; rfl) :
    PE X (.ListComp elt [⟨tg, iter, ifs, 0⟩] scope pos) (tMO X.K l W .ow en (lcE (fun t => (fd t).bind fun d => .ok (G d)) w p c h)) := lock_O a (PE.impL (pe_lc hc hN hi ok hg ht he hs) fun σ H Q hl ⟨S, t, P, b, cf, E, q⟩ => ⟨S, t, P, b, cf, E, lc_core hen wp σ H Q (hl.trans hn) cf E q⟩) (fun t => by
  cases hd : fd t with
  | ok d => rfl
  | ex x => exact (a.nx t x hd).elim
  | stuck => unfold lcE; dsimp only; rw [hd]; rfl) fun t => lcE_nx (by
  cases hd : fd t with
  | ok d => exact nx_ok
  | ex x => exact (a.nx t x hd).elim
  | stuck => exact fun _ z => nomatch z)
end
end M

namespace M
open Enc (enc)
open PySem PySem.Spec PyProof.Rows L2 W
/-! ### isinstance of a thing -/
section
variable {X : Cx} {ω T : Type} [Wd ω] {l : Lay T} {W : WX} {o : Expr} {gw : T → List ω} {fo : T → Res Hn} {pos p p2 : Pos} {sh : Bool} {rows : List (Str × Bool)} {c : Str}
theorem at_cls {K : PySem.W.Frag} {S : Sh} {H : Hp} {σ : L2.St} {t : T} {P : FP} {b : Bool} {h : Hn} {q : Addr} (wr : Wr sh l (encW : ω → D) gw) (sub : Same S H) (E : Env K S H σ l t P) (hp : S.mu h.i = some q) (e : rowOf rows (gw t) h = some b) : ∃ c dx fs, rows.lookup c = some b ∧ H q = some (.ins (He.ga K c) dx fs) := by
  unfold rowOf at e
  obtain ⟨c, e1, e2⟩ := Option.bind_eq_some_iff.mp e
  obtain ⟨ob, e3, e4⟩ := Option.bind_eq_some_iff.mp e1
  obtain ⟨a, P1, ha, r, _⟩ := wr.rd E e3
  rw [hp] at ha
  cases ha
  unfold clsW at e4
  split at e4
  · rename_i c' fs ek
    cases e4
    obtain ⟨q', dx, ws, P2, e5, hH, _⟩ := Rp.objW sub r ek
    cases e5
    exact ⟨c, dx, _, e2, hH⟩
  · cases e4
/-- isinstance(o, C) -/
theorem me_isW (wr : Wr sh l (encW : ω → D) gw) (hr : ∀ x b, rows.lookup x = some b → InsT X.K (He.ga X.K x) ∧ Cls X.K (He.ga X.K x) ∧ PySem.W.kitOne X.K (.ref (He.ga X.K x)) (.ref (He.ga X.K c)) = some b) (ho : PE X o (tME X.K l W eH fo)) (hg : Gl X "isinstance") (hm : X.mg "isinstance" = none) (hg2 : Gl X c) (hm2 : X.mg c = some (.ref (He.ga X.K c)))
    (hdb : (c == ("__debug__" : Str)) = false := by decide) (he : starEach [o, .Name c p2] X.env = (false, eval o X.env) :: starEach [.Name c p2] X.env := by rfl) (he2 : starEach [.Name c p2] X.env = (false, eval (.Name c p2) X.env) :: starEach [] X.env := by rfl) (hpl : (backTo pos (starEach [.Name c p2] X.env)).any (·.1) = false := by rfl) :
    PE X (.Call (.Name "isinstance" p) [o, .Name c p2] [] pos) (tME X.K l W eB (isW gw rows fo)) := PE.imp (pe_callB call_isi hg hm (by decide +kernel) (pa_cons ho (pa_cons (me_gl hg2 hm2 hdb) pa_nil he2) he) (by decide) (by decide) he hpl) fun σ H Q ⟨S, t, P, cf, E, q⟩ => ⟨S, t, P, cf, E, by
  unfold isW at q
  refine q.bind.imp (fun h q v S1 H1 g r => ?_) fun _ z => z
  obtain ⟨a, rfl, hp, _⟩ := Rp.hnd r
  obtain ⟨b, e, q⟩ := RQ.ofO q
  obtain ⟨x, dx, fs, hl, hH⟩ := at_cls wr (cf.grow g).sub.le (E.grow g) hp e
  obtain ⟨i1, i2, i3⟩ := hr x b hl
  exact ⟨_, _, _, _, b, rfl, .own _, i1.ty i2 hH, i3, q _ S1 H1 g (Rep.bl _ .nil)⟩⟩
end
/-! ### a walk over a name's own list -/
section
variable {X : Cx} {T R α : Type} [Enc α] {l : Lay T} {n : Nat} {W : WX} {mr : Md} {er : R → D} {tg iter : Expr} {pos : Pos} {body : List Stmt} {us : List Nat} {i : Nat} {get : T → Option (List α)} {p : T → Option (List α) → T} {put : Option Unit × T → α → Option Unit × T} {F : Option Unit × T → Out (Option Unit × T) R}
theorem ms_forT (hp : PassesOwn (model X.prog X.w) X.A X.env X.xe) (hc : X.calm = true) (k : Tak l i .ow (Enc.enc : List α → D) get p) (hv : PE X iter (tVar i)) (hpn : ∀ t, p t (get t) = t)
    (hg : ∀ a : Addr, PG X tg (tMG X.K (.cons i .sh (fun _ : Unit => M.D.adr a) l) n us (Enc.enc : α → D) put)) (hb : ∀ a : Addr, MSs X (.cons i .sh (fun _ : Unit => M.D.adr a) l) n W mr er body F) (hfs : ∀ x, foldedSetIterable iter X.env x = pure x := by intro _; rfl) :
    MS X l n W mr er (.For tg iter body [] pos) (forT get p put F) := by
  refine ⟨fun pins s σ H D I ⟨S, t, P, c, E, hl, q⟩ => ?_⟩
  unfold forT at q
  cases hx : get t with
  | none => rw [hx] at q; exact q.elim
  | some xs =>
    rw [hx] at q
    dsimp only at q
    obtain ⟨v, P1, P2, hσ, r, ⟨a, rfl, rfl⟩, E2, dj, rfl⟩ := k.tak E hx
    have hil : i < σ.length := by
      rcases Nat.lt_or_ge i σ.length with z | z
      · exact z
      · rw [List.getElem?_eq_none z] at hσ; cases hσ
    obtain ⟨a', ws, e1, hs, r1⟩ := Rp.lstF c.sub.le r (.inr ⟨a, rfl, rfl⟩)
    cases e1
    have hlen : ws.length = xs.length := by rw [r1.len, List.length_map]
    have c2 : Cfg l.tabs S H P2 := c.mono fun x z => .inr z
    have na : ¬ P2 a := dj a rfl
    have E3 : Env X.K S H σ (.cons i .sh (fun _ : Unit => M.D.adr a) l) (some (), p t none) P2 := ⟨.ref a, Emp, P2, hσ, Rep.adr a .nil, rfl, E2, fun _ z => z.elim, emp_or.symm⟩
    have lft : ∀ {S' : Sh} {H' : Hp} {P' : FP}, Grw l.tabs S H P2 S' H' P' → Grw l.tabs S H (fun x => x = a ∨ P2 x) S' H' (fun x => x = a ∨ P' x) ∧ H' a = some (.lst ws) ∧ ¬ P' a := fun {S' H' P'} g => ⟨g.frameL c (fun x o e => E.ntH x o (.inl e)) (fun x e z => dj x e z), g.keep a _ na (fun _ z => nomatch z) hs, fun z => (g.fp a z).elim na fun z => by rw [hs] at z; cases z⟩
    have fin : ∀ {σ' : L2.St} {S' : Sh} {H' : Hp} {P' : FP} {t' : Option Unit × T}, Grw l.tabs S H P2 S' H' P' → Env X.K S' H' σ' (.cons i .sh (fun _ : Unit => M.D.adr a) l) t' P' → σ'.length = n → OQ X.K l n W mr er S H (fun x => x = a ∨ P2 x) D (match t'.1, get t'.2 with
        | some _, none => .nx (p t'.2 (some xs))
        | _, _ => .stuck) → D.nx σ' H' := fun {σ' S' H' P' t'} g E' hl' q => by
      obtain ⟨u, t'⟩ := t'
      cases u with
      | none => exact q.elim
      | some u =>
        dsimp only at q
        cases hg' : get t' with
        | some _ => rw [hg'] at q; exact q.elim
        | none =>
          rw [hg'] at q
          have hp' : p t' none = t' := by rw [← hg']; exact hpn t'
          obtain ⟨v, P3, P4, h1, r3, o3, e3, _, rfl⟩ := E'
          have o3 : P3 = Emp := o3
          subst o3
          rw [emp_or] at g
          have ev : v = .ref a := by cases r3; rfl
          subst ev
          obtain ⟨gl, ha, nP⟩ := lft g
          have r4 : Rp X.K S' H' (.ref a) (Enc.enc xs) (fun x => x = a) := (Rep.owl ha (r1.frame g.s fun _ _ z => z.elim) .nil (fun z => z) (fun z => z) fun _ z => z.elim).cast fun x => ⟨fun z => z.elim id fun z => z.elim False.elim False.elim, .inl⟩
          exact (show OQ X.K l n W mr er S H (fun x => x = a ∨ P2 x) D (.nx (p t' (some xs))) from q) σ' S' H' _ gl (k.bak (by rw [hp']; exact e3) h1 r4 ⟨a, rfl, rfl⟩ fun x e z => nP (e ▸ z)) hl'
    have q2 : OQ X.K (.cons i .sh (fun _ : Unit => M.D.adr a) l) n W mr er S H P2 D (loopL put F xs (some (), p t none)) := by
      cases e : loopL put F xs (some (), p t none) with
      | nx t' => rw [e] at q; exact fun σ' S' H' P' g E' hl' => fin g E' hl' q
      | rt z t' => rw [e] at q; exact fun v σ' S' H' P' Pr g E' rv ok d => q v σ' S' H' P' Pr ((show Grw l.tabs S H P2 S' H' (fun x => P' x ∨ Pr x) from g).frameL c (fun x o e => E.ntH x o (.inl e)) (fun x e z => dj x e z) |>.less fun x z => .inr z) (Env.drop E') rv ok d
      | ex z t' => rw [e] at q; exact fun cls d σ' S' H' P' g E' hl' x => q cls d σ' S' H' P' ((show Grw l.tabs S H P2 S' H' P' from g).frameL c (fun x o e => E.ntH x o (.inl e)) (fun x e z => dj x e z) |>.less fun x z => .inr z) (Env.drop E') hl' x
      | bk t' => rw [e] at q; exact q.elim
      | ct t' => rw [e] at q; exact q.elim
      | stuck => rw [e] at q; exact q
    clear q
    refine (ps_for hp hc (pi_list hv) (hg a) (hb a) hfs).run pins s σ H D I ?_
    refine ⟨_, hσ, a, rfl, ⟨ws, SqL.of hs⟩, fun j m σ' H' => m = xs.length - j ∧ j ≤ xs.length ∧ ∃ S' t' P', Grw l.tabs S H P2 S' H' P' ∧ Env X.K S' H' σ' (.cons i .sh (fun _ : Unit => M.D.adr a) l) t' P' ∧ σ'.length = n ∧ OQ X.K (.cons i .sh (fun _ : Unit => M.D.adr a) l) n W mr er S' H' P' D (loopL put F (xs.drop j) t'),
      ⟨_, rfl, Nat.zero_le _, S, _, P2, .refl c2, E3, hl, q2⟩, ?_⟩
    rintro j m σ' H' ⟨rfl, hle, S', t', P', g', E', hl', q'⟩
    obtain ⟨_, ha, _⟩ := lft g'
    by_cases hi : j < xs.length
    · have hi' := hi
      rw [← hlen] at hi'
      refine .inr ⟨⟨ws, ws[j], SqL.of ha, List.getElem?_eq_getElem hi'⟩, fun σ3 H3 => ∃ S3 t3 P3, Grw l.tabs S H P2 S3 H3 P3 ∧ Env X.K S3 H3 σ3 (.cons i .sh (fun _ : Unit => M.D.adr a) l) t3 P3 ∧ σ3.length = n ∧ OQ X.K (.cons i .sh (fun _ : Unit => M.D.adr a) l) n W mr er S3 H3 P3 D (loopL put F (xs.drop (j + 1)) t3), fun σ3 H3 z => ⟨_, ?_, rfl, hi, z⟩, fun x H2 y => ?_⟩
      · omega
      obtain ⟨rfl, y⟩ := y
      have y := y ws (SqL.of ha)
      obtain ⟨w, ew, rw'⟩ := Rep.getE r1 (i := j) (d := enc xs[j]) (by rw [List.getElem?_map, List.getElem?_eq_getElem hi]; rfl)
      rw [y] at ew
      cases ew
      have rx : Rp X.K S' H2 x (enc xs[j]) Emp := rw'.frame g'.s fun _ _ z => z.elim
      rw [List.drop_eq_getElem_cons hi] at q'
      refine ⟨S', t', P', xs[j], g'.cfg, E', hl', rx, fun σ2 P3 E2 k2 hl2 _ => ⟨S', _, P3, g'.cfg.mono k2, E2, hl2, ?_⟩⟩
      have g2 : Grw l.tabs S' H2 P' S' H2 P3 := (Grw.refl g'.cfg).less k2
      unfold loopL at q'
      cases e : F (put t' xs[j]) with
      | nx t3 => rw [e] at q'; exact fun σ3 S3 H3 P3 g3 E3 hl3 => ⟨S3, t3, P3, g'.trans (g2.trans g3), E3, hl3, OQ.trans q' (g2.trans g3)⟩
      | ct t3 => rw [e] at q'; exact fun σ3 S3 H3 P3 g3 E3 hl3 => ⟨S3, t3, P3, g'.trans (g2.trans g3), E3, hl3, OQ.trans q' (g2.trans g3)⟩
      | bk t3 => rw [e] at q'; exact fun σ3 S3 H3 P3 g3 E3 hl3 => q' σ3 S3 H3 P3 (g2.trans g3) E3 hl3
      | rt r t3 => rw [e] at q'; exact fun v σ3 S3 H3 P3 Pr g3 => q' v σ3 S3 H3 P3 Pr (g2.trans g3)
      | ex x t3 => rw [e] at q'; exact fun cls d σ3 S3 H3 P3 g3 => q' cls d σ3 S3 H3 P3 (g2.trans g3)
      | stuck => rw [e] at q'; exact q'
    · have e : j = xs.length := by omega
      subst e
      refine .inl ⟨⟨ws, SqL.of ha, by omega⟩, ?_⟩
      rw [List.drop_length] at q'
      exact q' σ' S' H' P' (.refl g'.cfg) E' hl'
end
/-! ### pairs of a number and a text, in order -/
theorem lt_tupIS {prog : Program} {w : World} {A : Around} {E : Value → Shared → Prop} {s : Shared} {l b : Addr} {i j : Int} {x y : Str} {t u t2 u2 : Tok} {Q : Value → Shared → Prop} (hl : IsTup s.heap l #[.int i t, .str x u]) (hb : IsTup s.heap b #[.int j t2, .str y u2]) (hu : A.units < cLine)
    (h : Q (.bool (if i = j then decide (x.cps.toList < y.cps.toList) else decide (i < j))) s) : wpAny (model prog w) A (compareOp .Lt (.ref l) (.ref b)) Q E s := by
  obtain ⟨⟨cls, dd, data, sl⟩, ho, hc, n, hd⟩ := id hl
  obtain ⟨⟨cls2, dd2, data2, sl2⟩, ho2, hc2, n2, hd2⟩ := id hb
  simp only at hc hd hc2 hd2
  subst hc hd hc2 hd2
  have hv : Ob.lexAt (fun k => if k = 0 then i == j else x == y) (fun k => if k = 0 then decide (i < j) else decide (x.cps.toList < y.cps.toList)) (decide (2 < 2)) 0 2 = (if i = j then decide (x.cps.toList < y.cps.toList) else decide (i < j)) := by
    rw [Ob.lexAt_succ, Ob.lexAt_succ, Ob.lexAt_zero]
    by_cases e : i = j
    · subst e
      simp only [beq_self_eq_true, if_true, ite_true]
      by_cases e2 : x = y
      · subst e2
        have : ¬ x.cps.toList < x.cps.toList := List.lt_irrefl _
        simp [this]
      · simp [e2]
    · simp [e]
  exact richCompare_meets_room (op := .Lt) ⟨_, ho, rfl⟩ ⟨_, ho2, rfl⟩ PySem.F.slot_tuple_lt PySem.F.entry_tuple_lt (PySem.F.args_tuple_lt_2 _ _) (Ob.tuple_ltAt l b _ _ n n2 dd dd2 sl sl2 (fun k => if k = 0 then i == j else x == y) (fun k => if k = 0 then decide (i < j) else decide (x.cps.toList < y.cps.toList)))
    ⟨ho, ho2, fun k h1 h2 => by
      match k, h1, h2 with
      | 0, _, _ => exact SeqAt.EqAt.int_int _ _ _ _
      | 1, _, _ => exact SeqAt.EqAt.str_str _ _ _ _, fun k h1 h2 _ => by
      match k, h1, h2 with
      | 0, _, _ => exact Ob.RcOp.lt_int _ _ _ _
      | 1, _, _ => exact fun prog w E Q h => (PyProof.Rows.lt_str h : wpAny (model prog w) _ (compareOp .Lt (.str x u) (.str y u2)) Q E _), (by show Value.bool _ ≠ Value.notImplemented ∧ Q (.bool _) s; exact ⟨(fun z => nomatch z), Eq.mpr (congrArg (fun b => Q (.bool b) s) hv) h⟩)⟩ hu
theorem op_ltIS {X : Cx} (hu : X.A.units < cLine) : OpR X (compareOp .Lt) (fun x y H Q => ∃ a b i j z z2, x = .ref a ∧ y = .ref b ∧ SqT X.K H a [.int i, .str z] ∧ SqT X.K H b [.int j, .str z2] ∧ Q (.bl (if i = j then decide (z.cps.toList < z2.cps.toList) else decide (i < j))) H) := by
  intro pins s σ H x y v u Q I rx ry h
  obtain ⟨a, b, i, j, z, z2, rfl, rfl, ha, hb, q⟩ := h
  cases rx
  cases ry
  obtain ⟨its, r1, p1, _⟩ := I.tuple ha
  obtain ⟨its2, r2, p2, _⟩ := I.tuple hb
  cases r1 with
  | cons x1 r1 => cases r1 with
    | cons x2 r1 =>
      cases r1
      obtain ⟨t1, rfl⟩ := x1
      obtain ⟨t2, rfl⟩ := x2
      cases r2 with
      | cons y1 r2 => cases r2 with
        | cons y2 r2 =>
          cases r2
          obtain ⟨u1, rfl⟩ := y1
          obtain ⟨u2, rfl⟩ := y2
          exact lt_tupIS p1 p2 hu (fin_bl I q rfl)
theorem rp_is {K : PySem.W.Frag} {S : Sh} {H : Hp} {v : V} {P : FP} {x : T2 Int Str} (s : Same S H) (r : Rp K S H v (enc x) P) : ∃ a, v = .ref a ∧ SqT K H a [.int x.a, .str x.b] := by
  obtain ⟨p, ws, rfl, h, r, _⟩ := Rp.tup r
  obtain ⟨v1, us1, A1, B1, rfl, r1, s1, _, h1⟩ := r.split
  obtain ⟨v2, us2, A2, B2, rfl, r2, s2, _, h2⟩ := s1.split
  obtain ⟨rfl, e9⟩ := s2.nilP
  obtain ⟨rfl, _⟩ := Rp.int r1
  obtain ⟨rfl, _⟩ := Rp.str r2
  exact ⟨p, rfl, W.Same.seqT s h⟩
theorem o_ltIS {K : PySem.W.Frag} : Op2 K (fun x y H Q => ∃ a b i j z z2, x = .ref a ∧ y = .ref b ∧ SqT K H a [.int i, .str z] ∧ SqT K H b [.int j, .str z2] ∧ Q (.bl (if i = j then decide (z.cps.toList < z2.cps.toList) else decide (i < j))) H) (Enc.enc : T2 Int Str → D) (Enc.enc : T2 Int Str → D) eB ltIS := ⟨fun {τ S H x y a b P1 P2 Q} s rx ry _ _ q => by
  obtain ⟨p, rfl, h⟩ := rp_is s.le rx
  obtain ⟨p2, rfl, h2⟩ := rp_is s.le ry
  exact ⟨p, p2, _, _, _, _, rfl, rfl, h, h2, q _ S H (.refl s) (Rep.bl _ .nil)⟩, fun _ _ => nx_ok⟩
end M

namespace M
open Enc (enc)
open PySem PySem.Spec PyProof.Rows L2 W
instance mvs_shI {α : Type} {en : α → D} [q : Emx en] : Mvs .sh en := mvs_sh
instance mvs_owI {α : Type} [Enc α] [q : EmE α] : Mvs .ow (Enc.enc : List α → D) := mvs_ow
/-! ### the end of a law that makes things; helpers of the printed texts -/
theorem rows_nil {ρ : Type} {p : Str → ρ → Prop} : ∀ c F, ([] : List (Str × ρ)).lookup c = some F → p c F := fun _ _ h => nomatch h
theorem rows_cons {ρ : Type} {p : Str → ρ → Prop} {c0 : Str} {F0 : ρ} {rows : List (Str × ρ)} (h : p c0 F0) (r : ∀ c F, rows.lookup c = some F → p c F) : ∀ c F, ((c0, F0) :: rows).lookup c = some F → p c F := fun c F e => by
  rw [List.lookup_cons] at e
  split at e
  · rename_i z
    have z := eq_of_beq z
    subst z
    cases e
    exact h
  · exact r c F e
theorem inl_nil {p : Str → Prop} : ∀ c ∈ ([] : List Str), p c := fun _ h => absurd h List.not_mem_nil
theorem inl_cons {p : Str → Prop} {c0 : Str} {cs : List Str} (h : p c0) (r : ∀ c ∈ cs, p c) : ∀ c ∈ c0 :: cs, p c := fun c e => (List.mem_cons.mp e).elim (fun z => z ▸ h) (r c)
theorem sp0_nil {sp : Sp} {vs : List V} {H : Hp} {Q : VK} {E : XK} (h : sp vs H Q E) : sp (vs ++ []) H Q E := (List.append_nil vs).symm ▸ h
theorem law_endW {ω : Type} {ew : ω → D} {P : Program} {w : World} {K : PySem.W.Frag} {mg : Str → Option Value} {base : Heap} {k : Nat} {f : Addr} {fd : FuncData} {x : Str} {τ τ' : TL} {lf : Scr × Unit → List ω → OutX (List ω) Bool} (F : FnOk P w K mg base (L2.CX P w) k f fd [x] (spW K τ' ew (consD (Enc.enc : Scr → D) nilD) .sh eB lf)) (ht : τ'.tabs = τ.tabs)
    (h : ∀ ns : List Int, ns.length ≤ 63 → (∀ z ∈ ns, Builtin.Int.intBits z ≤ 1048576) → ∃ w', lf (⟨ns⟩, ()) [] = .ok true w') : FnOk P w K mg base L2.CX0 k f fd [x] (sp_lawT τ K) := by
  have go : ∀ vs H Q E, sp_lawT τ K vs H Q E → spW K τ' ew (consD (Enc.enc : Scr → D) nilD) .sh eB lf vs H Q (fun _ _ _ => False) := fun vs H Q E ⟨a, ns, e, hS, hl, hb, hT, q⟩ => by
    subst e
    have r : Rep K ⟨Snt H, fun _ => none⟩ H (ns.map V.int) (ns.map eI) Emp := by
      clear hS hl hb
      induction ns with
      | nil => exact .nil
      | cons n ns ih => exact Rep.int n ih
    refine ⟨⟨Snt H, fun _ => none⟩, (⟨ns⟩, ()), [], Emp, ⟨⟨snt_le H, snt_nt H, by rw [ht]; exact hT⟩, fun _ z => z.elim, fun _ z => z.elim⟩, ⟨fun _ => Emp, fun i o e => by simp at e, fun i _ => ⟨rfl, fun _ z => z⟩, fun _ _ _ _ z => z.elim, fun x => ⟨fun z => z.elim, fun ⟨_, z⟩ => z⟩⟩, Rep.scr (snt_seq hS) r .nil, ?_⟩
    obtain ⟨w', e⟩ := h ns hl hb
    rw [e]
    intro v S' H' P' P1 g hw r o n
    obtain ⟨rfl, _⟩ := Rp.bl r
    exact q H'
  refine ⟨fun vs H Q E z => F.len vs H Q _ (go vs H Q E z), fun A outer s H args us vs Q E hr e0 hb r z => codeAny_mono (F.run A outer s H args us vs Q (fun _ _ _ => False) hr e0 hb r (go vs H Q E z)) fun r s' hq => ?_⟩
  cases r with
  | ok u => cases u <;> exact hq
  | error e =>
    obtain ⟨_, _, _, _, _, _, _, _, _, _, _, _, z⟩ := hq
    exact z.elim
/-! a world to try the printing on -/
inductive WoT where
  | Row (now : Option Int) (times : Option (Dct Str Int)) (pairs : Option (List (T2 Int Str)))
instance : Wd WoT := ⟨fun o => match o with
  | .Row a b c => .obj "Row" [("now", a.map enc), ("times", b.map enc), ("pairs", c.map enc)]⟩
def WoT.get_times : WoT → Option (Dct Str Int)
  | .Row _ b _ => b
def WoT.set_times : WoT → Dct Str Int → Option WoT
  | .Row a b c, v => if (b.isSome || c.isNone) = true then some (.Row a (some v) c) else none
def WoT.put_times : WoT → Dct Str Int → WoT
  | .Row a _ c, v => .Row a (some v) c
theorem fl_timesT : Fld (ω := WoT) ["Row"] "times" (Enc.enc : Dct Str Int → D) WoT.get_times := ⟨fun {o a} h => by
  cases o with
  | Row x0 x1 x2 => 
    have h : x1 = some a := h
    subst h
    exact ⟨_, _, rfl, .head _, rfl⟩⟩
theorem fm_timesT : FldM (ω := WoT) ["Row"] "times" (Enc.enc : Dct Str Int → D) WoT.get_times WoT.put_times := ⟨fun {o a} h => by
  cases o with
  | Row x0 x1 x2 =>
    have h : x1 = some a := h
    subst h
    exact ⟨_, _, rfl, .head _, rfl, fun _ => rfl⟩⟩
theorem fs_timesT : FldS (ω := WoT) ["Row"] "times" (Enc.enc : Dct Str Int → D) WoT.set_times := ⟨fun {o o' a} h => by
  cases o with
  | Row x0 x1 x2 =>
    unfold WoT.set_times at h
    dsimp only at h
    split at h
    · rename_i hc
      cases h
      exact ⟨_, _, rfl, .head _, (by cases x1 <;> cases x2 <;> first | rfl | cases hc), (show 3 < 900 from by decide), rfl⟩
    · cases h⟩
theorem nf_T : NoFld WoT "below" := fun o c fs e => by
  cases o <;> (cases e; rfl)
end M

namespace M
open Enc (enc)
open PySem PySem.Spec PyProof.Rows L2 W
section
variable {X : Cx} {T R α : Type} [Enc α] {l : Lay T} {n : Nat} {W : WX} {mr : Md} {er : R → D} {o i value : Expr} {pos pos' : Pos} {b : Bool} {get : T → Res (List α)} {set : T → List α → T} {fi : T → Res Int} {fv : T → OutX T α}
theorem rep_set {K : PySem.W.Frag} {S : Sh} {H : Hp} {ea : α → D} {v : V} {a : α} (rv : Rp K S H v (ea a) Emp) : ∀ {xs : List α} {ws : List V} (k : Nat), Rep K S H ws (xs.map ea) Emp → Rep K S H (ws.set k v) ((xs.set k a).map ea) Emp
  | [], ws, k, r => by obtain ⟨rfl, _⟩ := r.nilP; exact r
  | x :: xs, ws, 0, r => by
    obtain ⟨w, us, rfl, r1, r2⟩ := Rep.splitE r
    exact rv.joinE r2
  | x :: xs, ws, k + 1, r => by
    obtain ⟨w, us, rfl, r1, r2⟩ := Rep.splitE r
    exact r1.joinE (rep_set rv k r2)
theorem msx_lput (se : SelE b (Enc.enc : α → D)) (ho : PE X o (tMF b X.K l W (Enc.enc : List α → D) get set)) (hk : PE X i (tME X.K l W eI fi)) (he : PE X value (tMX X.K l W .sh (Enc.enc : α → D) fv))
    (ha : ∀ v, assign (.Subscript o i pos') X.env v = (do
      let ov ← holding [v] (eval o X.env)
      let iv ← holding [v, ov] (eval i X.env)
      standAt pos'
      holding [v, ov, iv] (setItem ov iv v)
      release [v, ov, iv] []) := by intro _; rfl)
    (hs : swapsWithSole [.Subscript o i pos'] value pos.line X.env = pure false := by rfl) (hw : swappedStores [.Subscript o i pos'] value X.env = pure none := by rfl)
    (h1 : (assignEach [.Subscript o i pos'] X.env).map (·.2) = [assign (.Subscript o i pos') X.env] := by rfl) : MS X l n W mr er (.Assign [.Subscript o i pos'] value pos) (lputX get set fi fv) :=
  PS.imp (ps_asg he (pg_sub ho hk set_list ha) hs hw h1) fun D σ H ⟨S, t, P, c, E, hl, q⟩ => ⟨S, t, P, c, E, andX_v hl q fun a t1 q v S1 H1 P1 Pv g E1 rv ov d => by
    have ov : Pv = Emp := ov
    subst ov
    have g := g.orE
    refine ⟨S1, t1, P1, g.cfg, E1, ?_⟩
    cases hg : get t1 with
    | stuck => simp only [hg] at q; exact q
    | ex x => simp only [hg] at q; exact fun S' H' cls d2 g2 r => q cls d2 σ S' H' P1 (g.trans (g2.grw g.cfg)) (E1.grow g2) hl r
    | ok xs =>
      simp only [hg] at q
      intro p S2 H2 g2 fo
      have c2 := g.cfg.grow g2
      obtain ⟨ws, hH, hp, r1, bk⟩ := foc_lst fo se c2
      refine ⟨S2, t1, P1, c2, E1.grow g2, ?_⟩
      cases ha : fi t1 with
      | stuck => simp only [ha] at q; exact q
      | ex x => simp only [ha] at q; exact fun S' H' cls d2 g3 r => q cls d2 σ S' H' P1 (g.trans ((g2.trans g3).grw g.cfg)) ((E1.grow g2).grow g3) hl r
      | ok k =>
        simp only [ha] at q
        intro y S3 H3 g3 ry
        obtain ⟨rfl, _⟩ := Rp.int ry
        have hH3 := g3.h.lst hH
        have r1' := r1.frame (H' := H3) g3.s.sel fun _ _ z => z.elim
        have hlen : ws.length = xs.length := by rw [r1.len, List.length_map]
        cases hj : ixN xs.length k with
        | none => rw [hj] at q; exact q.elim
        | some j =>
          rw [hj] at q
          have rv3 : Rp X.K (selS b S3) H3 v (enc a) Emp := se.mv a (rv.frame (g2.s.trans g3.s) fun _ _ z => z.elim)
          obtain ⟨gw, E3⟩ := bk (ws.set j v) (xs.set j a) S3 H3 g3 (rep_set rv3 j r1')
          exact ⟨p, ws, k, j, rfl, rfl, hH3, by rw [hlen]; exact hj, q σ S3 _ P1 ((g.trans (g2.grw g.cfg)).trans gw) E3 hl⟩⟩
end
theorem o_isNU {K : PySem.W.Frag} : Op2 K (fun x y H Q => y = .non ∧ Q (.bl (decide (x = .non))) H) (Enc.enc : Unit → D) (Enc.enc : Unit → D) eB isNU := ⟨fun {τ S H x y a b P1 P2 Q} s rx ry _ _ q => by
  obtain ⟨rfl, _⟩ := Rp.non rx
  obtain ⟨rfl, _⟩ := Rp.non ry
  exact ⟨rfl, by rw [decide_eq_true rfl]; exact q _ S H (.refl s) (Rep.bl _ .nil)⟩, fun _ _ => nx_ok⟩
theorem o_notNU {K : PySem.W.Frag} : Op2 K (fun x y H Q => y = .non ∧ Q (.bl (!decide (x = .non))) H) (Enc.enc : Unit → D) (Enc.enc : Unit → D) eB notNU := ⟨fun {τ S H x y a b P1 P2 Q} s rx ry _ _ q => by
  obtain ⟨rfl, _⟩ := Rp.non rx
  obtain ⟨rfl, _⟩ := Rp.non ry
  exact ⟨rfl, by rw [decide_eq_true rfl]; exact q _ S H (.refl s) (Rep.bl _ .nil)⟩, fun _ _ => nx_ok⟩
theorem Room0.units {k : Nat} {A : Around} (r : Room k A) : A.units < cLine := by
  have := r.un
  omega
/-- len of a tuple -/
theorem o_lenU {α : Type} {en : α → D} {n : Nat} {es : α → List D} (he : ∀ a, en a = .tup (es a)) (hn : ∀ a, (es a).length = n) {K : PySem.W.Frag} : OpN K (fun xs H Q => ∃ p ys, xs = [.ref p] ∧ (SqL K H p ys ∨ SqT K H p ys) ∧ Q (.int ys.length) H) (a1 en) eI (fun _ => .ok (n : Int)) := ⟨fun {τ S H vs a P Q} s r q => by
  obtain ⟨v, P1, rfl, r, f⟩ := r.one
  rw [he] at r
  obtain ⟨p, ws, rfl, h, r, _⟩ := Rp.tup r
  refine ⟨p, ws, rfl, .inr (W.Same.seqT s.le h), ?_⟩
  rw [show ws.length = n by rw [r.len, hn]]
  exact q _ S H (.refl s) (Rep.int _ .nil), fun _ => nx_ok⟩
end M
namespace M
open Enc (enc)
open PySem PySem.Spec PyProof.Rows L2 W
/-! several entries of one slot -/
structure Clr {T : Type} (l : Lay T) (i : Nat) (c : T → T) : Prop where
  clr : ∀ {K : PySem.W.Frag} {S : Sh} {H : Hp} {σ : L2.St} {t : T} {P : FP} {w : Option V}, Env K S H σ l t P → ∃ P', Env K S H (σ.set i w) l (c t) P' ∧ ∀ x, P' x → P x
section
variable {T α : Type} {l : Lay T} {i : Nat} {m : Md} {en : α → D} {c : T → T}
theorem Clr.n (h : l.no i = true) : Clr l i id := ⟨fun {K S H σ t P w} e => ⟨P, Env.set_no h e, fun _ z => z⟩⟩
theorem Clr.d {β : Type} {m' : Md} {en' : β → D} (q : Clr l i c) : Clr (.cons i m' en' l) i (fun t => (Option.none, c t.2)) := ⟨fun {K S H σ t P w} e => by
  obtain ⟨x, t⟩ := t
  cases x with
  | none => exact q.clr (t := t) e
  | some b =>
    obtain ⟨v, P1, P2, _, _, _, e2, _, rfl⟩ := e
    obtain ⟨P', e3, k⟩ := q.clr e2
    exact ⟨P', e3, fun x z => .inr (k x z)⟩⟩
theorem Put.zk (k : Clr l i c) : Put (.cons i m en l) i m en (fun t a => (some a, c t.2)) := ⟨fun {K S H σ t P P1 a v} e hi r o dj => by
  obtain ⟨x, t⟩ := t
  cases x with
  | none =>
    obtain ⟨P', e2, q⟩ := k.clr (w := some v) (t := t) e
    exact ⟨_, ⟨v, P1, P', List.getElem?_set_self hi, r, o, e2, fun x z y => dj x z (q x y), rfl⟩, fun x z => z.elim .inr fun z => .inl (q x z)⟩
  | some b =>
    obtain ⟨v', P3, P2, _, _, _, e2, _, rfl⟩ := e
    obtain ⟨P', e3, q⟩ := k.clr (w := some v) e2
    exact ⟨_, ⟨v, P1, P', List.getElem?_set_self hi, r, o, e3, fun x z y => dj x z (.inr (q x y)), rfl⟩, fun x z => z.elim .inr fun w => .inl (.inr (q x w))⟩⟩
theorem Put.d {β : Type} {m' : Md} {en' : β → D} {p : T → α → T} (q : Put l i m en p) : Put (.cons i m' en' l) i m en (fun t a => (Option.none, p t.2 a)) := ⟨fun {K S H σ t P P1 a v} e hi r o dj => by
  obtain ⟨x, t⟩ := t
  cases x with
  | none => exact q.put (t := t) e hi r o dj
  | some b =>
    obtain ⟨v', P3, P2, _, _, _, e2, _, rfl⟩ := e
    obtain ⟨P', e4, k⟩ := q.put e2 hi r o fun x z w => dj x z (.inr w)
    exact ⟨P', e4, fun x z => (k x z).elim (fun z => .inl (.inr z)) .inr⟩⟩
end
end M
namespace M
open Enc (enc)
open PySem PySem.Spec PyProof.Rows L2 W
/-! a text so many times -/
def mulV (x : Str) (n : Int) : Str := if n < 1 then PySem.Str.empty else if (n == 1 || x.length == 0) = true then x else ⟨(List.replicate n.toNat x.cps).foldl (· ++ ·) #[]⟩
theorem len_fold {x : Array Nat} : ∀ (k : Nat) (acc : Array Nat), ((List.replicate k x).foldl (· ++ ·) acc).size = acc.size + x.size * k
  | 0, acc => by simp
  | k + 1, acc => by
    rw [List.replicate_succ, List.foldl_cons, len_fold k, Array.size_append, Nat.mul_succ]
    omega
theorem all_fold {x : Array Nat} {p : Nat → Bool} (h : x.all p = true) : ∀ (k : Nat) (acc : Array Nat), acc.all p = true → ((List.replicate k x).foldl (· ++ ·) acc).all p = true
  | 0, acc, ha => ha
  | k + 1, acc, ha => by
    rw [List.replicate_succ, List.foldl_cons]
    exact all_fold h k _ (by rw [Array.all_append, ha, h]; rfl)
theorem mulV_ok {x : Str} {n : Int} (h : sOk x = true) : sOk (mulV x n) = true := by
  unfold mulV
  split
  · decide +kernel
  · split
    · exact h
    · exact all_fold h _ _ (by simp)
theorem op_mul_str {X : Cx} : OpR X (binaryOp .Mult) (fun x y H Q => ∃ i n, x = .str i ∧ y = .int n ∧ (-(2 ^ 31) < n ∧ n < 2 ^ 31 ∧ i.length * n.toNat ≤ sizeLine ∧ i.length < 2 ^ 31) ∧ Q (.str (mulV i n)) H) := by
  intro pins s σ H x y v u Q I rx ry h
  obtain ⟨i, n, rfl, rfl, ⟨h1, h2, h3, h4⟩, q⟩ := h
  obtain ⟨t, rfl⟩ := rx
  obtain ⟨t', rfl⟩ := ry
  have hl : Builtin.Str.tooLong (i.length * n.toNat) = false := decide_eq_false (Nat.not_lt.mpr h3)
  refine PySem.P.mul_str (by
    have h5 : ¬ n < -(2 ^ 63 : Int) := by omega
    have h6 : ¬ n ≥ 2 ^ 63 := by omega
    rw [decide_eq_false h5, decide_eq_false h6]; rfl) (fun a b => ?_) (fun _ _ => hl) ?_
  · have : (2 ^ 63 - 1 : Int) / n ≥ 2 ^ 31 := by
      refine Int.le_ediv_of_mul_le (by omega) ?_
      have : (2:Int) ^ 31 * n ≤ 2 ^ 31 * (2 ^ 31 - 1) := Int.mul_le_mul_of_nonneg_left (by omega) (by decide)
      omega
    omega
  · unfold mulV at q
    split
    · rename_i hn
      rw [if_pos hn] at q
      exact ⟨by decide, .str PySem.Str.empty, H, I.tok _, ⟨_, rfl⟩, q⟩
    · rename_i hn
      rw [if_neg hn] at q
      split
      · rename_i hc
        rw [if_pos hc] at q
        exact ⟨.str i, H, I, ⟨_, rfl⟩, q⟩
      · rename_i hc
        rw [if_neg hc] at q
        refine ⟨?_, .str _, H, I.tok _, ⟨_, rfl⟩, q⟩
        show ((List.replicate n.toNat i.cps).foldl (· ++ ·) #[]).size ≤ _
        rw [len_fold]
        have e : (#[] : Array Nat).size + i.cps.size * n.toNat = i.length * n.toNat := Nat.zero_add _
        rw [e]
        exact h3
theorem o_mulT {K : PySem.W.Frag} : Op2 K (fun x y H Q => ∃ i n, x = .str i ∧ y = .int n ∧ (-(2 ^ 31) < n ∧ n < 2 ^ 31 ∧ i.length * n.toNat ≤ sizeLine ∧ i.length < 2 ^ 31) ∧ Q (.str (mulV i n)) H) eT eI eT mulT := ⟨fun {τ S H x y a b P1 P2 Q} s rx ry _ _ q => by
  obtain ⟨rfl, _, o1⟩ := Rp.str rx
  obtain ⟨rfl, _⟩ := Rp.int ry
  obtain ⟨hc, q⟩ := q.chk
  exact ⟨a, b, rfl, rfl, of_decide_eq_true hc, q _ S H (.refl s) (Rep.str (mulV a b) (mulV_ok o1) .nil)⟩, fun _ _ => nx_chk⟩
end M
namespace M
open Enc (enc)
open PySem PySem.Spec PyProof.Rows L2 W
theorem excInit_rd2 {K : PySem.W.Frag} {C fI : Addr} {vs : List V} {H : Hp} {Q : VK} {E : XK} {m x y : Str} (EI : ExcI K C fI) (h : spXI K C vs H Q E) :
    tSeq (tDrop (tVeI K (tCons (tVar 0) (tCons (tC (.str m)) tNil)))) (tOst K "name" (tVar 0) (tVar 1)) { nx := fun _ H' => Q .non H', rt := Q } (L2.start [x, y] vs) H := by
  obtain ⟨a, z, rfl, ha, q⟩ := h
  exact ⟨.ref a, rfl, a, C, [.str m], rfl, (by show 1 ≤ 1000; decide), EI.o, ha, .str z, rfl, .ref a, rfl, a, C, rfl, EI.o, EI.no, .inl ⟨ha, q⟩⟩
instance mvs_owD {κ α : Type} [KyC κ] [Enc α] [q : EmE α] : Mvs .ow (Enc.enc : Dct κ α → D) := ⟨fun {K S S2 H v P} a sub r o n t m => by
  obtain ⟨p, rfl, rfl⟩ := o
  obtain ⟨ws, h, kl, r1⟩ := Rp.dicW r
  exact (Rep.dic h kl (emx_map (H2 := H) (en := (Enc.enc : α → D)) (xs := a.kvs.map (·.2)) t m (by rw [List.map_map]; exact r1) |> fun z => by rw [List.map_map] at z; exact z) .nil (fun z => z) (fun z => z) fun _ z => z.elim).cast fun x => ⟨fun z => z.elim id fun z => z.elim False.elim False.elim, .inl⟩⟩
instance {κ α : Type} [KyC κ] [Enc α] [q : EmE α] : Fla (Enc.enc : Dct κ α → D) := ⟨fun {K S H v P} a s r => by
  obtain ⟨p, ws, P1, rfl, h, kl, r1, k, ⟨_, _⟩ | ⟨hp, n1, e⟩⟩ := Rp.dic s r
  · cases r with
    | shd h1 _ _ z => exact .inl ((z.nilP).2)
    | dic h1 _ r2 z =>
      have e1 := emx_mapE (en := (Enc.enc : α → D)) (xs := a.kvs.map (·.2)) (by rw [List.map_map]; exact r2)
      have e2 := (z.nilP).2
      exact .inr ⟨p, rfl, fp_eq fun x => by rw [e1, e2]; simp⟩
  · have e1 := emx_mapE (en := (Enc.enc : α → D)) (xs := a.kvs.map (·.2)) (by rw [List.map_map]; exact r1)
    exact .inr ⟨p, rfl, fp_eq fun x => by rw [e, e1]; simp⟩⟩
end M
namespace M
open PySem PySem.Spec PyProof.Rows L2 W
theorem Wip.w {ω : Type} {τ : TL} {en : ω → D} {us : List Nat} : Wip (Lay.wld τ en) us id := ⟨fun {K S H σ t P} e => ⟨P, e, fun _ z => z⟩⟩
theorem Wip.r {ω : Type} {τ : TL} {en : ω → D} {us : List Nat} : Wip (Lay.rwd τ en) us id := ⟨fun {K S H σ t P} e => ⟨P, e, fun _ z => z⟩⟩
end M
namespace M
open PySem PySem.Spec PyProof.Rows L2 W
section
variable {X : Cx} {T β κ γ : Type} [KyC κ] [Enc κ] [KyE κ] [Enc γ] {l : Lay T} {n : Nat} {W : WX} {elt e tg : Expr} {eb : β → D} {pos apos cpos tpos : Pos} {ifs : List Expr} {scope : Scope} {own : List (Str × Nat)} {w : T → T} {c : T → Res Bool} {h : T → Res β} {en : List β → D} {fd : T → Res (Dct κ γ)} {ad : Sh → Hp → L2.St → T → Addr → Prop} {elts : List Expr} {kk : Nat}
theorem mo_lcIt {p : T → T2 κ γ → T} (a : Adr X l e (Enc.enc : Dct κ γ → D) fd ad) (hc : X.calm = true) (hN : X.N.Nodup) (hn : X.N.length = n) (hen : ∀ xs, en xs = .lst (xs.map eb)) (ok : BlkOk X.N X.env.scope scope own) (wp : Wip l (own.map (·.2)) w)
    (hg : ∀ (s : Shared) (H : Hp) (C : Addr) (cl : List (Str × Addr)) (fp : List Addr), PG (X.blk s H scope (compEnvC scope cl C X.env) fp) (.Tuple elts kk tpos) (tMG X.K l n (own.map (·.2)) (Enc.enc : T2 κ γ → D) p)) (ht : ∀ (s : Shared) (H : Hp) (C : Addr) (cl : List (Str × Addr)) (fp : List Addr), PTs (X.blk s H scope (compEnvC scope cl C X.env) fp) ifs (tMT X.K l W0 c))
    (he : ∀ (s : Shared) (H : Hp) (C : Addr) (cl : List (Str × Addr)) (fp : List Addr), PE (X.blk s H scope (compEnvC scope cl C X.env) fp) elt (tME X.K l W0 eb h)) (hbase : attributeBase e "items" X.env (eval e X.env) = eval e X.env := by rfl) (hline : (apos.endLine == cpos.line) = true := by rfl) (hs : ∀ x, foldedSetIterable (.Call (.Attribute e "items" apos) [] [] cpos) X.env x = pure x := by intro _; rfl) :
    PE X (.ListComp elt [⟨.Tuple elts kk tpos, .Call (.Attribute e "items" apos) [] [] cpos, ifs, 0⟩] scope pos) (tMO X.K l W .ow en (lcE (fun t => (fd t).bind fun d => .ok ((fun d : Dct κ γ => d.kvs.map fun kv => (⟨kv.1, kv.2⟩ : T2 κ γ)) d)) w p c h)) :=
  mo_lcL (G := fun d : Dct κ γ => d.kvs.map fun kv => (⟨kv.1, kv.2⟩ : T2 κ γ)) a hc hN hn hen (mi_items a hbase hline) ok wp hg ht he hs
theorem mo_lcVa {p : T → γ → T} (a : Adr X l e (Enc.enc : Dct κ γ → D) fd ad) (hc : X.calm = true) (hN : X.N.Nodup) (hn : X.N.length = n) (hen : ∀ xs, en xs = .lst (xs.map eb)) (ok : BlkOk X.N X.env.scope scope own) (wp : Wip l (own.map (·.2)) w)
    (hg : ∀ (s : Shared) (H : Hp) (C : Addr) (cl : List (Str × Addr)) (fp : List Addr), PG (X.blk s H scope (compEnvC scope cl C X.env) fp) tg (tMG X.K l n (own.map (·.2)) (Enc.enc : γ → D) p)) (ht : ∀ (s : Shared) (H : Hp) (C : Addr) (cl : List (Str × Addr)) (fp : List Addr), PTs (X.blk s H scope (compEnvC scope cl C X.env) fp) ifs (tMT X.K l W0 c))
    (he : ∀ (s : Shared) (H : Hp) (C : Addr) (cl : List (Str × Addr)) (fp : List Addr), PE (X.blk s H scope (compEnvC scope cl C X.env) fp) elt (tME X.K l W0 eb h)) (hbase : attributeBase e "values" X.env (eval e X.env) = eval e X.env := by rfl) (hline : (apos.endLine == cpos.line) = true := by rfl) (hs : ∀ x, foldedSetIterable (.Call (.Attribute e "values" apos) [] [] cpos) X.env x = pure x := by intro _; rfl) :
    PE X (.ListComp elt [⟨tg, .Call (.Attribute e "values" apos) [] [] cpos, ifs, 0⟩] scope pos) (tMO X.K l W .ow en (lcE (fun t => (fd t).bind fun d => .ok ((fun d : Dct κ γ => d.kvs.map fun kv => kv.2) d)) w p c h)) :=
  mo_lcL (G := fun d : Dct κ γ => d.kvs.map fun kv => kv.2) a hc hN hn hen (mi_vals a hbase hline) ok wp hg ht he hs
end
end M

namespace M
open Enc (enc)
open PySem PySem.Spec PyProof.Rows L2 W
/-! ### a for over a dict's view -/
section
variable {T R α β κ γ : Type} {K : PySem.W.Frag} {S S' : Sh} {H H' : Hp} {P P' : FP} {τ : TL} {d : Addr} {kvs : List (Key × V)}
def tMSB {T R : Type} (B : Sh → Hp → L2.St → T → Prop) (K : PySem.W.Frag) (l : Lay T) (n : Nat) (W : WX) (mr : Md) (er : R → D) (F : T → Out T R) : TS := fun D σ H => ∃ S t P, B S H σ t ∧ Cfg l.tabs S H P ∧ Env K S H σ l t P ∧ σ.length = n ∧ OQ K l n W mr er S H P D (F t)
theorem PS.or {X : Cx} {st : Stmt} {t1 t2 : TS} (h1 : PS X st t1) (h2 : PS X st t2) : PS X st (fun D σ H => t1 D σ H ∨ t2 D σ H) := ⟨fun pins s σ H Q I z => z.elim (fun z => h1.run pins s σ H Q I z) fun z => h2.run pins s σ H Q I z⟩
theorem grw_unlk {od : Obj} (c : Cfg τ S H P) (h : S d = some (.dK kvs)) (g : Grw τ (S.upd d (.frz od (.dK kvs))) (upd H d (.frz od (.dK kvs))) P S' H' P') :
    S' d = some (.frz od (.dK kvs)) ∧ H' d = some (.frz od (.dK kvs)) ∧ Grw τ S H P (S'.upd d (.dK kvs)) (upd H' d (.dK kvs)) P' := by
  have e1 : S' d = some (.frz od (.dK kvs)) := g.s _ _ upd_same
  have e2 := g.cfg.sub _ _ e1
  have neP : ∀ x, P' x → x ≠ d := fun x hx e => by
    have := g.cfg.sep x hx
    rw [e, e1] at this
    cases this
  refine ⟨e1, e2, ⟨⟨fun x o e => ?_, fun i a e => g.s.mu i a e⟩, fun z => g.mu z, ⟨⟨fun x o e => ?_, fun x ps e => ?_, tabs_upd g.cfg.sub.tb e2 do_frz⟩, fun x hx => (upd_ne (neP x hx)).trans (g.cfg.sep x hx), fun x hx => by rw [upd_ne (neP x hx)]; exact g.cfg.inh x hx⟩, fun x o hx n e => ?_, fun x hx => ?_, fun x o e => ?_, fun x e => ?_⟩⟩
  · by_cases hx : x = d
    · subst hx; rw [h] at e; cases e; exact upd_same
    · exact (upd_ne hx).trans (g.s x o ((upd_ne hx).trans e))
  · by_cases hx : x = d
    · subst hx
      have e := upd_same.symm.trans e
      cases e; exact upd_same
    · exact (upd_ne hx).trans (g.cfg.sub x o ((upd_ne hx).symm.trans e))
  · by_cases hx : x = d
    · subst hx
      have e := upd_same.symm.trans e
      cases e
    · exact g.cfg.sub.nt x ps ((upd_ne hx).symm.trans e)
  · by_cases hx' : x = d
    · subst hx'; rw [c.sub _ _ h] at e; cases e; exact upd_same
    · exact (upd_ne hx').trans (g.keep x o hx n ((upd_ne hx').trans e))
  · rcases g.fp x hx with z | z
    · exact .inl z
    · exact .inr (by rw [upd_ne (neP x hx)] at z; exact z)
  · by_cases hx : x = d
    · exact .inl ⟨_, by rw [hx]; exact h⟩
    · rcases g.new x o ((upd_ne hx).symm.trans e) with ⟨u, z⟩ | z | z
      · exact .inl ⟨u, (upd_ne hx).symm.trans z⟩
      · exact .inr (.inl z)
      · exact .inr (.inr ((upd_ne hx).symm.trans z))
  · have hx : x ≠ d := fun z => by rw [z, upd_same] at e; cases e
    rcases g.free x ((upd_ne hx).symm.trans e) with z | z
    · exact .inl z
    · exact .inr ((upd_ne hx).symm.trans z)
end
section
variable {X : Cx} {T R α β κ γ : Type} [KyC κ] [Enc κ] [KyE κ] [Enc γ] {l : Lay T} {n : Nat} {W : WX} {mr : Md} {er : R → D} {iter tg e : Expr} {st : Stmt} {ea : α → D} {f : T → Res (List α)} {pos : Pos} {F : T → Out T R} {p : T → α → T} {body : List Stmt} {us : List Nat} {fd : T → Res (Dct κ γ)} {ad : Sh → Hp → L2.St → T → Addr → Prop}
theorem Out.str_ne {o : Out T R} {x : Exn} {t : T} : o.str ≠ .ex x t := by cases o <;> exact fun z => nomatch z
theorem lock_S (a : Adr X l e (Enc.enc : Dct κ γ → D) fd ad) (h : PS X st (tMSB (lkd ad) X.K l n W mr er F)) (hF : ∀ t, F t = .stuck ∨ ∃ dd, fd t = .ok dd) (hx : ∀ t x s, F t ≠ .ex x s) : MS X l n W mr er st F := PS.imp (PS.or (ps_lock h) h) fun D σ H ⟨S, t, P, c, E, hl, q⟩ => by
  rcases hF t with hs | ⟨dd, hd⟩
  · rw [hs] at q; exact q.elim
  obtain ⟨p, hp, r⟩ := a.rep c E hd
  obtain ⟨p', ws, P1, e1, h1, kl, r1, _, ⟨h2, _⟩ | ⟨z, _⟩⟩ := Rp.dic c.sub.le r
  case inr => exact z.elim
  cases e1
  rcases h2 with h2 | ⟨od, h2⟩
  · have c2 := c.sub _ _ h2
    refine .inl ⟨p, _, c2, trivial, fun od => ?_⟩
    have L : Lk p S (S.upd p (.frz od (.dK _))) H (upd H p (.frz od (.dK _))) := lk_upd (.inl h2) (.inr ⟨od, rfl⟩)
    have np : ¬ P p := fun z => by have := c.sep p z; rw [h2] at this; cases this
    refine ⟨_, t, P, ⟨p, od, _, a.lk hp L ⟨_, c2, fun z => z.1 _ rfl⟩, upd_same⟩, c.lk h2, E.lk L np, hl, ?_⟩
    have back : ∀ {σ' : L2.St} {S' : Sh} {H' : Hp} {P' : FP} {t' : T}, Grw l.tabs _ _ P S' H' P' → Env X.K S' H' σ' l t' P' → H' p = some (.frz od (.dK _)) ∧ Grw l.tabs S H P (S'.upd p (.dK _)) (upd H' p (.dK _)) P' ∧ Env X.K (S'.upd p (.dK _)) (upd H' p (.dK _)) σ' l t' P' := fun {σ' S' H' P' t'} g E' => by
      obtain ⟨e1, e2, g2⟩ := grw_unlk c h2 g
      refine ⟨e2, g2, E'.lk (lk_upd (.inr ⟨od, e1⟩) (.inl rfl)) fun z => ?_⟩
      have := g.cfg.sep p z
      rw [e1] at this
      cases this
    cases ho : F t with
    | nx t' => rw [ho] at q; exact fun σ' S' H' P' g E' hl' => let ⟨e2, g2, E2⟩ := back g E'; ⟨e2, q σ' _ _ P' g2 E2 hl'⟩
    | bk t' => rw [ho] at q; exact fun σ' S' H' P' g E' hl' => let ⟨e2, g2, E2⟩ := back g E'; ⟨e2, q σ' _ _ P' g2 E2 hl'⟩
    | ct t' => rw [ho] at q; exact fun σ' S' H' P' g E' hl' => let ⟨e2, g2, E2⟩ := back g E'; ⟨e2, q σ' _ _ P' g2 E2 hl'⟩
    | rt r t' =>
      rw [ho] at q
      intro v σ' S' H' P' Pr g E' rr o dj
      obtain ⟨e1, e2, g2⟩ := grw_unlk c h2 g
      have nP : ∀ x, P' x ∨ Pr x → x ≠ p := fun x z y => by
        have := g.cfg.sep x z
        rw [y, e1] at this
        cases this
      exact ⟨e2, q v σ' _ _ P' Pr g2 (E'.lk (lk_upd (.inr ⟨od, e1⟩) (.inl rfl)) fun z => nP p (.inl z) rfl) (rr.lk (lk_upd (.inr ⟨od, e1⟩) (.inl rfl)) fun z => nP p (.inr z) rfl) o dj⟩
    | ex x t' => exact (hx t x t' ho).elim
    | stuck => rw [ho] at q; exact q.elim
  · exact .inr ⟨S, t, P, ⟨p, od, _, hp, h2⟩, c, E, hl, q⟩
theorem OQ.str {S : Sh} {H : Hp} {P : FP} {D : Ends} {o : Out T R} (q : OQ X.K l n W mr er S H P D o.str) : OQ X.K l n W mr er S H P D o := by
  cases o with
  | ex x t => exact q.elim
  | nx t => exact q
  | bk t => exact q
  | ct t => exact q
  | rt r t => exact q
  | stuck => exact q
/-- a for over a dict's view -/
theorem ms_forL {G : Dct κ γ → List α} (a : Adr X l e (Enc.enc : Dct κ γ → D) fd ad) (hp : PassesOwn (model X.prog X.w) X.A X.env X.xe) (hc : X.calm = true) (hi : PI X tg iter (tMIB (lkd ad) X.K l W true ea (fun t => (fd t).bind fun d => .ok (G d)))) (hg : PG X tg (tMG X.K l n us ea p)) (hb : MSs X l n W mr er body F) (hfs : ∀ x, foldedSetIterable iter X.env x = pure x := by intro _; rfl) :
    MS X l n W mr er (.For tg iter body [] pos) (forK (fun t => (fd t).bind fun d => .ok (G d)) p F) := by
  refine lock_S a (PS.imp (ps_for hp hc hi hg hb hfs) fun D σ H ⟨S, t, P, b, c, E, hl, q⟩ => ?_) (fun t => ?_) (fun t x s => ?_)
  · refine ⟨S, t, P, b, c, E, andS_q c E hl q fun xs q J S1 H1 Pw g wk hsh _ => ?_⟩
    have q := OQ.str q
    obtain rfl := hsh rfl
    refine ⟨fun i m σ' H' => m = xs.length - i ∧ i ≤ xs.length ∧ ∃ S' t' P', Grw l.tabs S1 H1 P S' H' P' ∧ Env X.K S' H' σ' l t' P' ∧ σ'.length = n ∧ OQ X.K l n W mr er S' H' P' D (loopL p F (xs.drop i) t'),
      ⟨_, rfl, Nat.zero_le _, S1, t, P, .refl (c.grow g), E.grow g, hl, OQ.trans q (g.grw c)⟩, ?_⟩
    rintro i m σ' H' ⟨rfl, hle, S', t', P', g', E', hl', q'⟩
    by_cases hi : i < xs.length
    · refine .inr ⟨wk.go hi g'.s g'.cfg.sub fun _ _ z => z.elim, fun σ3 H3 => ∃ S3 t3 P3, Grw l.tabs S1 H1 P S3 H3 P3 ∧ Env X.K S3 H3 σ3 l t3 P3 ∧ σ3.length = n ∧ OQ X.K l n W mr er S3 H3 P3 D (loopL p F (xs.drop (i + 1)) t3), fun σ3 H3 z => ⟨_, ?_, rfl, hi, z⟩, fun x H2 y => ?_⟩
      · omega
      obtain ⟨S2, gy, ry⟩ := wk.yld hi g'.s g'.cfg.sub (fun _ _ z => z.elim) y
      rw [List.drop_eq_getElem_cons hi] at q'
      have gg := gy.grw g'.cfg
      refine ⟨S2, t', P', xs[i], gg.cfg, E'.grow gy, hl', ry, fun σ2 P2 E2 k2 hl2 _ => ⟨S2, _, P2, gg.cfg.mono k2, E2, hl2, ?_⟩⟩
      have g2 : Grw l.tabs S' H' P' S2 H2 P2 := gg.less k2
      unfold loopL at q'
      cases e : F (p t' xs[i]) with
      | nx t3 => rw [e] at q'; exact fun σ3 S3 H3 P3 g3 E3 hl3 => ⟨S3, t3, P3, g'.trans (g2.trans g3), E3, hl3, OQ.trans q' (g2.trans g3)⟩
      | ct t3 => rw [e] at q'; exact fun σ3 S3 H3 P3 g3 E3 hl3 => ⟨S3, t3, P3, g'.trans (g2.trans g3), E3, hl3, OQ.trans q' (g2.trans g3)⟩
      | bk t3 => rw [e] at q'; exact fun σ3 S3 H3 P3 g3 E3 hl3 => q' σ3 S3 H3 P3 (g2.trans g3) E3 hl3
      | rt r t3 => rw [e] at q'; exact fun v σ3 S3 H3 P3 Pr g3 => q' v σ3 S3 H3 P3 Pr (g2.trans g3)
      | ex x t3 => rw [e] at q'; exact fun cls d σ3 S3 H3 P3 g3 => q' cls d σ3 S3 H3 P3 (g2.trans g3)
      | stuck => rw [e] at q'; exact q'
    · have e : i = xs.length := by omega
      subst e
      refine .inl ⟨wk.stop g'.s g'.cfg.sub fun _ _ z => z.elim, ?_⟩
      rw [List.drop_length] at q'
      exact q' σ' S' H' P' (.refl g'.cfg) E' hl'
  · unfold forK andS
    cases hd : fd t with
    | ok d => exact .inr ⟨d, rfl⟩
    | ex x => exact (a.nx t x hd).elim
    | stuck => left; dsimp only; rw [hd]; rfl
  · unfold forK andS
    cases hd : fd t with
    | ok d => dsimp only; rw [hd]; exact Out.str_ne
    | ex x => exact (a.nx t x hd).elim
    | stuck => dsimp only; rw [hd]; exact fun z => nomatch z
end
end M

namespace M
open Enc (enc)
open PySem PySem.Spec PyProof.Rows L2 W
/-! ### == of two dicts that are equal -/
theorem inv_rdOk {X : Cx} {pins : List (Addr × Obj)} {σ : L2.St} {H : Hp} {s : Shared} {a : Addr} {u : HO} (I : Inv X pins σ H s) (h : Rd H a u) : ObjOk X.prog X.w H s.heap a u := h.elim (fun h => I.hok a _ h) fun ⟨o, h⟩ => (I.hok a _ h).2
def rEqK (K : PySem.W.Frag) : R2 := fun x y H Q => ∃ a b ks ls, x = .ref a ∧ y = .ref b ∧ Rd H a (.dK ks) ∧ Rd H b (.dK ls) ∧ ks.length = ls.length ∧ (∀ p ∈ ks, ∃ u, valV ls p.1 = some u ∧ p.2 = u ∧ flatB u = true) ∧ Q (.bl true) H
theorem op_eqK {X : Cx} (hu : X.A.units + 64 < cLine) : OpR X (compareOp .Eq) (rEqK X.K) := by
  intro pins s σ H x y v u Q I rx ry h
  obtain ⟨a, b, ks, ls, rfl, rfl, ha, hb, hl, hp, q⟩ := h
  cases (show v = Value.ref a from rx)
  cases (show u = Value.ref b from ry)
  obtain ⟨_, ya, va, ra, da⟩ := (show ObjOk X.prog X.w H s.heap a (.dK ks) from inv_rdOk I ha)
  obtain ⟨_, yb, vb, rb, db⟩ := (show ObjOk X.prog X.w H s.heap b (.dK ls) from inv_rdOk I hb)
  refine PySem.W.rcP_dicts (knd := mixKind X.prog X.w) (r := true) ya yb da db (by omega) (fun _ => hits_run (F := fun x y => x = y ∧ flatB y = true) (fun x y v u ⟨e, f⟩ rx ry => by
    subst e
    exact (eqAt_same rx ry f).eqP) rb ra hp) _ _ ?_
  have e : va.length = vb.length := by rw [← ra.length, ← rb.length]; exact hl
  rw [show (va.length == vb.length && true) = true from by rw [e]; simp]
  exact ⟨.bl true, H, I, rfl, q⟩
theorem o_eqK {κ : Type} [KyC κ] [Enc κ] [KyE κ] [DecidableEq κ] {K : PySem.W.Frag} : Op2 K (rEqK K) (enc : Dct κ Int → D) enc eB eqK := ⟨fun {τ S H x y a b P1 P2 Q} s rx ry f1 f2 q => by
  obtain ⟨hc, q⟩ := q.chk
  obtain ⟨hl, hp⟩ := of_decide_eq_true hc
  obtain ⟨p1, ws, rfl, h1, kl1, r1⟩ := Rp.dicF s rx f1
  obtain ⟨p2, us, rfl, h2, kl2, r2⟩ := Rp.dicF s ry f2
  refine ⟨p1, p2, _, _, rfl, rfl, h1, h2, ?_, fun p hm => ?_, q _ S H (.refl s) (Rep.bl _ .nil)⟩
  · rw [List.length_zip, List.length_zip, ← kl1.len, ← kl2.len, Nat.min_self, Nat.min_self]
    simpa using hl
  · obtain ⟨i, hi⟩ := List.mem_iff_getElem?.mp hm
    obtain ⟨k, w⟩ := p
    have hi2 : i < a.kvs.length := by
      have := (List.getElem?_eq_some_iff.mp hi).1
      rw [List.length_zip, List.length_map] at this
      omega
    obtain ⟨rfl, rw_⟩ := zip_at hi2 r1 hi
    have hv := val_get (a.kvs[i].1) r2
    have hg : getK b.kvs a.kvs[i].1 = some a.kvs[i].2 := hp _ (List.getElem_mem hi2)
    rw [hg] at hv
    obtain ⟨v, hv, rv⟩ := hv
    obtain ⟨e1, _⟩ := Rp.int rw_
    obtain ⟨e2, _⟩ := Rp.int rv
    exact ⟨v, hv, by rw [e1, e2], by rw [e2]; rfl⟩, fun _ _ => nx_chk⟩
/-! ### a for over a dict's items, its values -/
section
variable {X : Cx} {T R κ γ : Type} [KyC κ] [Enc κ] [KyE κ] [Enc γ] {l : Lay T} {n : Nat} {W : WX} {mr : Md} {er : R → D} {e tg : Expr} {pos apos cpos tpos : Pos} {F : T → Out T R} {body : List Stmt} {us : List Nat} {fd : T → Res (Dct κ γ)} {ad : Sh → Hp → L2.St → T → Addr → Prop} {elts : List Expr} {kk : Nat}
theorem ms_forIt {p : T → T2 κ γ → T} (a : Adr X l e (Enc.enc : Dct κ γ → D) fd ad) (hp : PassesOwn (model X.prog X.w) X.A X.env X.xe) (hc : X.calm = true) (hg : PG X (.Tuple elts kk tpos) (tMG X.K l n us (Enc.enc : T2 κ γ → D) p)) (hb : MSs X l n W mr er body F) (hbase : attributeBase e "items" X.env (eval e X.env) = eval e X.env := by rfl) (hline : (apos.endLine == cpos.line) = true := by rfl) (hfs : ∀ x, foldedSetIterable (.Call (.Attribute e "items" apos) [] [] cpos) X.env x = pure x := by intro _; rfl) :
    MS X l n W mr er (.For (.Tuple elts kk tpos) (.Call (.Attribute e "items" apos) [] [] cpos) body [] pos) (forK (fun t => (fd t).bind fun d => .ok ((fun d : Dct κ γ => d.kvs.map fun kv => (⟨kv.1, kv.2⟩ : T2 κ γ)) d)) p F) := ms_forL (G := fun d : Dct κ γ => d.kvs.map fun kv => (⟨kv.1, kv.2⟩ : T2 κ γ)) a hp hc (mi_items a hbase hline) hg hb hfs
theorem ms_forVa {p : T → γ → T} (a : Adr X l e (Enc.enc : Dct κ γ → D) fd ad) (hp : PassesOwn (model X.prog X.w) X.A X.env X.xe) (hc : X.calm = true) (hg : PG X tg (tMG X.K l n us (Enc.enc : γ → D) p)) (hb : MSs X l n W mr er body F) (hbase : attributeBase e "values" X.env (eval e X.env) = eval e X.env := by rfl) (hline : (apos.endLine == cpos.line) = true := by rfl) (hfs : ∀ x, foldedSetIterable (.Call (.Attribute e "values" apos) [] [] cpos) X.env x = pure x := by intro _; rfl) :
    MS X l n W mr er (.For tg (.Call (.Attribute e "values" apos) [] [] cpos) body [] pos) (forK (fun t => (fd t).bind fun d => .ok ((fun d : Dct κ γ => d.kvs.map fun kv => kv.2) d)) p F) := ms_forL (G := fun d : Dct κ γ => d.kvs.map fun kv => kv.2) a hp hc (mi_vals a hbase hline) hg hb hfs
end
end M

namespace L2
open PySem PySem.Calls PySem.Spec PyProof.Rows PyProof.V
/-! ### sum(d.values()) -/
section
variable {X : Cx} {o : Expr} {p pos apos mpos : Pos} {td : TE}
def tSumVals (td : TE) : TE := fun σ H Q => td σ H fun x H1 => ∃ (a : Addr) (kvs : List (Key × V)) (is : List Int), x = V.ref a ∧ Rd H1 a (.dK kvs) ∧ kvs.map (·.2) = is.map V.int ∧ Q (.int is.sum) H1
theorem preSum_ints (is : List Int) : ∀ n, n ≤ is.length → preSum (fun i => is.getD i 0) n = (is.take n).sum
  | 0, _ => rfl
  | n + 1, hn => by
    have hx : is[n]? = some is[n] := List.getElem?_eq_getElem hn
    show preSum (fun i => is.getD i 0) n + is.getD n 0 = _
    rw [preSum_ints is n (Nat.le_of_succ_le hn), List.take_succ, hx, List.sum_append, List.getD_eq_getElem?_getD, hx]
    simp
theorem pe_sumVals (hc : X.calm = true) (hg : Gl X "sum") (hm : X.mg "sum" = none) (hd : PE X o td) (hbase : attributeBase o "values" X.env (eval o X.env) = eval o X.env := by rfl) (hline : (apos.endLine == mpos.line) = true := by rfl)
    (hse : starEach [Expr.Call (.Attribute o "values" apos) [] [] mpos] X.env = [(false, eval (Expr.Call (.Attribute o "values" apos) [] [] mpos) X.env)] := by rfl) :
    PE X (.Call (.Name "sum" p) [.Call (.Attribute o "values" apos) [] [] mpos] [] pos) (tSumVals td) := by
  refine ⟨fun pins s σ H Q I h => ?_⟩
  refine wpAny_Call_Name_kw (ld_blt I hg hm (u := .builtin "sum") (by first | rfl | decide +kernel) ?_ (by first | decide +kernel | decide) (by first | decide +kernel | decide))
  rw [hse]
  refine PySem.callWith_builtin1 (wpAny_Call_method0_late hbase hline (thn (hd.run pins s σ H _ I h) fun v s1 ⟨x, H1, I1, r1, a, kvs, is, ex, ha, hv, q⟩ => ?_))
  subst ex
  obtain rfl : v = Value.ref a := r1
  obtain ⟨_, hsys, vs, rel, dof⟩ := dk_rd I1.hok ha
  obtain ⟨ep, dat⟩ := dof.dictAt
  have dat' := dat
  obtain ⟨ob, es, ho, ex, hdat, hko, hpr, hnd⟩ := dat'
  refine ⟨"dict", "dict.values", F.plainAttrs_dict, F.slot_dict_values, F.type_dict_values, ⟨ob, ho, ex.1⟩, fun b e => ?_, Calls.callWith_builtin rfl (PySem.evalArgs_none ?_)⟩
  · cases e
    exact ⟨ob, ho, ex.2.1⟩
  refine call_meetsIn F.slot_dict_values ⟨ob, ho, ex.1⟩ F.entry_dict_values (F.args_dict_values_1 _) (meets_dict_values (mixKind X.prog X.w) a hsys) ⟨⟨vs, dof⟩, ?_⟩
  have k1 : ∀ b u, s1.heap.get? b = some u → (s1.heap.push { cls := .type "dict_values", data := .fields #[.ref a] }).get? b = some u := fun b u e => Heap.get?_push_of_some _ e
  have dat1 : (s1.heap.push { cls := .type "dict_values", data := .fields #[.ref a] }).DictAt (mixKind X.prog X.w) a vs ep := dat.keep k1
  have hlv : vs.length = is.length := by
    have e1 := congrArg List.length hv
    rw [List.length_map, List.length_map] at e1
    rw [← e1]
    exact (KV.length rel).symm
  have hval : ∀ (i : Nat) (v : Value), (∃ k, vs[i]? = some (k, v)) → ∃ t, v = Value.int (is.getD i 0) t := fun i v ⟨k, hk⟩ => by
    obtain ⟨x, h1, h2⟩ := KV.at' rel hk
    have e1 : (kvs.map (·.2))[i]? = some x := by rw [List.getElem?_map, h1] <;> rfl
    rw [hv, List.getElem?_map] at e1
    obtain ⟨j, hj, e2⟩ := Option.map_eq_some_iff.mp e1
    subst e2
    obtain ⟨t, e3⟩ := h2
    refine ⟨t, ?_⟩
    rw [e3, List.getD_eq_getElem?_getD, hj] <;> rfl
  refine call_sum_walkAnyS (wpAny_pyIter_values (v := s1.heap.objs.size) (d := a) ⟨_, Heap.get?_push_size _ rfl, rfl, rfl⟩ dat1 ?_)
  have hlt : a < s1.heap.objs.size := Heap.lt_size ho
  have hsz : (s1.heap.push { cls := .type "dict_values", data := .fields #[.ref a] }).objs.size = s1.heap.objs.size + 1 := Heap.size_push _ _
  refine ⟨_, _, _, _, _, _, _, _, rfl, (Walks.dictValues (knd := mixKind X.prog X.w) (A := X.A.in1) (I.ok.hd hc) (s1.heap.push { cls := .type "dict_values", data := .fields #[.ref a] }).objs.size a (by rw [hsz]; exact Nat.ne_of_lt (Nat.lt_succ_of_lt hlt)) vs ep).toS,
    ⟨⟨_, Heap.get?_push_size _ rfl, rfl, rfl⟩, dat1.keep fun b u e => Heap.get?_push_of_some _ e⟩, fun b hb => ?_, hval, fun s' t' hmv => ?_⟩
  · show b < ((s1.heap.push _).push _).objs.size
    rw [Heap.size_push, Heap.size_push]
    rw [hsz] at hb
    rcases List.mem_cons.mp hb with e | hb
    · rw [e]
      exact Nat.lt_succ_self _
    · have e : b = a := List.mem_singleton.mp hb
      rw [e]
      exact Nat.lt_succ_of_lt (Nat.lt_succ_of_lt hlt)
  · have e5 : preSum (fun i => is.getD i 0) vs.length = is.sum := by
      rw [preSum_ints is vs.length (by omega), hlv, List.take_length]
    rw [e5, Moved.eq_with hmv]
    refine ⟨.int _, H1, I1.kept (t' := s'.toks) fun b u e => hmv.heap b u (fun hmem => ?_) (Heap.get?_push_of_some _ (k1 b u e)), ⟨t', rfl⟩, q⟩
    have e1 : b = (s1.heap.push { cls := .type "dict_values", data := .fields #[.ref a] }).objs.size := List.mem_singleton.mp hmem
    have e2 := Heap.lt_size e
    rw [hsz] at e1
    rw [e1] at e2
    exact absurd e2 (Nat.not_lt.mpr (Nat.le_succ _))
end
end L2
namespace M
open Enc (enc)
open PySem PySem.Spec PyProof.Rows L2 W
section
variable {X : Cx} {κ T : Type} [KyC κ] [Enc κ] [KyE κ] {l : Lay T} {W : WX} {o : Expr} {p pos apos mpos : Pos} {fd : T → Res (Dct κ Int)}
theorem rep_intsV {K : PySem.W.Frag} {S : Sh} {H : Hp} : ∀ {kvs : List (κ × Int)} {ws : List V}, Rep K S H ws (vsD kvs) Emp → ws = (kvs.map (·.2)).map V.int
  | [], ws, r => by cases r; rfl
  | q :: r, ws, h => by
    obtain ⟨v, us, rfl, h1, h2⟩ := Rep.splitE h
    obtain ⟨rfl, _⟩ := Rp.int h1
    rw [rep_intsV h2]
    rfl
theorem me_sumVals (hg : Gl X "sum") (hm : X.mg "sum" = none) (hc : X.calm = true) (ho : PE X o (tMB X.K l W (enc : Dct κ Int → D) fd)) (hbase : attributeBase o "values" X.env (eval o X.env) = eval o X.env := by rfl) (hline : (apos.endLine == mpos.line) = true := by rfl)
    (hse : starEach [Expr.Call (.Attribute o "values" apos) [] [] mpos] X.env = [(false, eval (Expr.Call (.Attribute o "values" apos) [] [] mpos) X.env)] := by rfl) :
    PE X (.Call (.Name "sum" p) [.Call (.Attribute o "values" apos) [] [] mpos] [] pos) (tME X.K l W eI (op1 sumDV fd)) :=
  PE.imp (pe_sumVals hc hg hm ho hbase hline hse) fun σ H Q ⟨S, t, P, c, E, q⟩ => ⟨S, t, P, c, E, q.bind.imp (fun d q x S1 H1 P1 g1 r1 f1 k1 => by
    obtain ⟨a, ws, rfl, h, kl, r⟩ := Rp.dicF g1.sub r1 f1
    refine ⟨a, _, d.kvs.map (·.2), rfl, h, ?_, q _ S1 H1 g1 (Rep.int _ .nil)⟩
    rw [← rep_intsV r, List.map_snd_zip]
    exact Nat.le_of_eq kl.len.symm) fun _ z => z⟩
end
end M

namespace M
open Enc (enc)
open PySem PySem.Spec PyProof.Rows L2 W
/-! ### walks over a text; enumerate -/
section
variable {X : Cx} {T α : Type} {l : Lay T} {W : WX} {e iter tg : Expr} {f : T → Res Str}
theorem charsT_get {s : Str} {i : Nat} (h : i < (charsT s).length) : ∃ c, s.cps[i]? = some c ∧ (charsT s)[i] = one c ∧ c ∈ s.cps.toList := by
  have h2 : i < s.cps.toList.length := by
    have : (charsT s).length = s.cps.toList.length := List.length_map ..
    omega
  refine ⟨s.cps.toList[i], ?_, ?_, List.getElem_mem h2⟩
  · rw [← Array.getElem?_toList]
    exact List.getElem?_eq_getElem h2
  · exact List.getElem_map (h := h) one
theorem mi_str (he : PE X iter (tME X.K l W eT f)) : PI X tg iter (tMI X.K l W true eT (op1 (fun s => .ok (charsT s)) f)) := PI.imp (pi_str he) fun σ H R ⟨S, t, P, c, E, q⟩ => ⟨S, t, P, c, E, q.bind.imp (fun s q v S1 H1 g r => by
  obtain ⟨rfl, _, o⟩ := Rp.str r
  have hl : (charsT s).length = s.cps.size := by
    have : (charsT s).length = s.cps.toList.length := List.length_map ..
    rw [this, Array.length_toList]
  refine ⟨s, rfl, (show ∀ J S1 H1 Pw, Grow l.tabs S H S1 H1 → Wk l.tabs X.K S1 H1 Pw eT (charsT s) J → (true = true → Pw = Emp) → (∀ x, Pw x → P x) → R J H1 from q) _ S1 H1 Emp g ⟨fun _ _ _ => by
    show s.cps.size ≤ _
    omega, fun hi _ _ _ => by
    show _ < s.cps.size
    omega, fun {i S' H' H2 x} hi s' sb _ y => ?_⟩ (fun _ => rfl) fun _ z => z.elim⟩
  obtain ⟨rfl, c, hc, rfl⟩ := y
  obtain ⟨c', h1, h2, h3⟩ := charsT_get hi
  rw [h1] at hc
  cases hc
  refine ⟨S', .refl sb, ?_⟩
  rw [h2]
  exact Rep.str _ (sOk_mem o h3) .nil) fun _ z => z⟩
theorem o_ninT : Op2 X.K (fun x y H Q => ∃ (c : Nat) (z : Str), x = .str ⟨#[c]⟩ ∧ y = .str z ∧ Q (.bl (!decide (c ∈ z.cps.toList))) H) eT eT eB ninT := ⟨fun {τ S H x y a b P1 P2 Q} s rx ry _ _ q => by
  obtain ⟨rfl, _⟩ := Rp.str rx
  obtain ⟨rfl, _⟩ := Rp.str ry
  obtain ⟨⟨l⟩⟩ := a
  match l, q with
  | [c], q => exact ⟨c, b, rfl, rfl, q _ S H (.refl s) (Rep.bl _ .nil)⟩, fun a b e => by
  unfold ninT
  split <;> simp⟩
theorem o_isB {K : PySem.W.Frag} : Op2 K (fun x y H Q => ∃ a b, x = .bl a ∧ y = .bl b ∧ Q (.bl (decide (a = b))) H) eB eB eB (eqA (α := Bool)) := ⟨fun {τ S H x y a b P1 P2 Q} s rx ry _ _ q => by
  obtain ⟨rfl, _⟩ := Rp.bl rx
  obtain ⟨rfl, _⟩ := Rp.bl ry
  exact ⟨a, b, rfl, rfl, q _ S H (.refl s) (Rep.bl _ .nil)⟩, fun _ _ => nx_ok⟩
theorem o_nisB {K : PySem.W.Frag} : Op2 K (fun x y H Q => ∃ a b, x = .bl a ∧ y = .bl b ∧ Q (.bl (!decide (a = b))) H) eB eB eB (neA (α := Bool)) := ⟨fun {τ S H x y a b P1 P2 Q} s rx ry _ _ q => by
  obtain ⟨rfl, _⟩ := Rp.bl rx
  obtain ⟨rfl, _⟩ := Rp.bl ry
  exact ⟨a, b, rfl, rfl, q _ S H (.refl s) (Rep.bl _ .nil)⟩, fun _ _ => nx_ok⟩
variable {ea : α → D} {en : List α → D} {g : T → Res (List α)} {p pos tpos : Pos} {elts : List Expr} {kk : Nat}
theorem mi_enum [Enc α] (hg : Gl X "enumerate") (hm : X.mg "enumerate" = none) (he : PE X e (tME X.K l W (enc : List α → D) g)) (hs : starEach [e] X.env = [(false, eval e X.env)] := by rfl) (hs1 : starEach [e] X.env = (false, eval e X.env) :: starEach [] X.env := by rfl) :
    PI X (.Tuple elts kk tpos) (.Call (.Name "enumerate" p) [e] [] pos) (tMI X.K l W true (enc : T2 Int α → D) (op1 (fun xs => .ok (enumL xs)) g)) := PI.imp (pi_enum hg hm (ma_cons he ma_nil hs1) hs) fun σ H R ⟨S, t, P, c, E, q⟩ => ⟨S, t, P, c, E, by
  have q2 := q.bind
  refine (show RQ ((g t).bind fun a => (Res.ok ()).bind fun b => Res.ok (a, b)) _ _ from ?_)
  cases e1 : g t with
  | stuck => rw [e1] at q2; exact q2.elim
  | ex x => rw [e1] at q2; exact q2
  | ok xs =>
    rw [e1] at q2
    intro vs S1 H1 g1 r
    obtain ⟨v, us, rfl, r1, r2⟩ := r.splitE
    obtain ⟨rfl, _⟩ := r2.nilP
    obtain ⟨a, ws, P1, rfl, hs', r3, _, ⟨h2, rfl⟩ | ⟨h2, _⟩⟩ := Rp.lst (es := xs.map enc) g1.sub r1
    case inr => exact h2.elim
    have hlen : ws.length = xs.length := by rw [r3.len, List.length_map]
    have at_ : ∀ {S' : Sh} {H' : Hp}, SL S1 S' → Sub l.tabs S' H' → SqL X.K H' a ws := fun s h => SqL.of (h _ _ (s _ _ h2))
    have hel : (enumL xs).length = xs.length := List.length_mapIdx
    refine ⟨a, ws, rfl, SqL.of hs', (show ∀ J S1 H1 Pw, Grow l.tabs S H S1 H1 → Wk l.tabs X.K S1 H1 Pw (enc : T2 Int α → D) (enumL xs) J → (true = true → Pw = Emp) → (∀ x, Pw x → P x) → R J H1 from q2) _ S1 H1 Emp g1 ⟨fun s h _ => ⟨ws, at_ s h, by omega⟩, fun {i S' H'} hi s h _ => ?_, fun {i S' H' H2 x} hi s sb _ y => ?_⟩ (fun _ => rfl) fun _ z => z.elim⟩
    · have hi' : i < ws.length := by omega
      exact ⟨ws, ws[i], at_ s h, List.getElem?_eq_getElem hi'⟩
    · obtain ⟨T', x', rfl, hT, rfl, hx⟩ := y
      have hx := hx ws (at_ s sb)
      have hi' : i < xs.length := by omega
      obtain ⟨w, ew, rw'⟩ := Rep.getE r3 (i := i) (d := enc xs[i]) (by rw [List.getElem?_map, List.getElem?_eq_getElem hi']; rfl)
      rw [hx] at ew
      cases ew
      have rv := rw'.frame (H' := H') s fun _ _ z => z.elim
      have gl := Grow.lay (o := .tup [.int (i : Nat), x']) sb hT
      refine ⟨_, gl, ?_⟩
      have e9 : (enumL xs)[i] = (⟨(i : Int), xs[i]⟩ : T2 Int α) := List.getElem_mapIdx
      rw [e9]
      exact (Rep.tup (.of (show (S'.upd T' (.tup [.int (i : Nat), x'])) T' = _ from upd_same)) (((show Rp X.K S' H' (.int (i : Nat)) (enc (i : Int)) Emp from Rep.int _ .nil).joinE rv).grow gl) .nil (fun z => z) fun _ z => z.elim).emp fun x z => z.elim id id⟩
end
end M

namespace M
open Enc (enc)
open PySem PySem.Spec PyProof.Rows L2 W
/-! ### a caught exception: isinstance, its name -/
structure ExcK (K : PySem.W.Frag) (D : Addr) : Prop where
  cl : (PySem.W.clsIn K D).isSome = true
  ga : PySem.W.findIn K (.ref D) "__getattribute__" = some (some (.builtin "BaseException.__getattribute__"))
  gt : PySem.W.findIn K (.ref D) "__getattr__" = some none
  sb : PySem.W.subIn K (.ref D) (.type "BaseException") = some true
  ca : PySem.W.findIn K (.ref D) "__class__" = some (some (.builtin "object.__class__"))
  gn : PySem.W.specialIn K (.builtin "object.__class__") "__get__" = some (some (.builtin "getset_descriptor.__get__"))
  tk : PySem.W.takesIn K (.builtin "object.__class__") = some true
  mr : PySem.W.mroIn K D (.type "object") = some true
def excKB (x : Str) (K : PySem.W.Frag) : Bool := (PySem.W.clsIn K (He.ga K x)).isSome && (decide (PySem.W.findIn K (.ref (He.ga K x)) "__getattribute__" = some (some (.builtin "BaseException.__getattribute__"))) && (decide (PySem.W.findIn K (.ref (He.ga K x)) "__getattr__" = some none) && (decide (PySem.W.subIn K (.ref (He.ga K x)) (.type "BaseException") = some true) &&
  (decide (PySem.W.findIn K (.ref (He.ga K x)) "__class__" = some (some (.builtin "object.__class__"))) && (decide (PySem.W.specialIn K (.builtin "object.__class__") "__get__" = some (some (.builtin "getset_descriptor.__get__"))) && (decide (PySem.W.takesIn K (.builtin "object.__class__") = some true) && decide (PySem.W.mroIn K (He.ga K x) (.type "object") = some true)))))))
theorem excK_ok {K : PySem.W.Frag} {x : Str} (h : excKB x K = true) : ExcK K (He.ga K x) := by
  unfold excKB at h
  simp only [Bool.and_eq_true, decide_eq_true_eq] at h
  exact ⟨h.1, h.2.1, h.2.2.1, h.2.2.2.1, h.2.2.2.2.1, h.2.2.2.2.2.1, h.2.2.2.2.2.2.1, h.2.2.2.2.2.2.2⟩
/-- its own name can be read -/
structure XName (K : PySem.W.Frag) (D : Addr) : Prop where
  xf : XfC K D
  no : PySem.W.findIn K (.ref D) "name" = some none
def xnB (x : Str) (K : PySem.W.Frag) : Bool := xfB K (He.ga K x) && decide (PySem.W.findIn K (.ref (He.ga K x)) "name" = some none)
theorem xn_ok {K : PySem.W.Frag} {x : Str} (h : xnB x K = true) : XName K (He.ga K x) := by
  unfold xnB at h
  rw [Bool.and_eq_true, decide_eq_true_eq] at h
  exact ⟨xfB_ok h.1, h.2⟩
section
variable {X : Cx} {a D : Addr} {oe : Obj} {d : Option Addr} {pn : List (Addr × Obj)}
def xdQ (H : Hp) : Option Addr → Prop
  | none => True
  | some dd => ∃ fs, H dd = some (.xd fs)
def rIsX (K : PySem.W.Frag) (D a : Addr) (d : Option Addr) : List V → Hp → VK → Prop := fun xs H Q => ∃ (c : V) (cv : Value) (b : Bool), xs = [.ref a, c] ∧ (∀ u, RelV c u → u = cv) ∧ xdQ H d ∧ PySem.W.kitOne K (.ref D) cv = some b ∧ Q (.bl b) H
theorem call_isX (C : ExcK X.K D) (hz : Zc (.ref D) d oe) (hf : ∃ vs, oe.data = .fields vs) : CallR (X.suite a ((a, oe) :: pn)) (.builtin "isinstance") (rIsX X.K D a d) := by
  intro pins s σ H xs us Q I r h
  obtain ⟨c, cv, b, rfl, hcv, hd, e, q⟩ := h
  cases r with
  | cons rx rr =>
    cases rr with
    | cons rt rr =>
      cases rr
      cases rx
      have ec := hcv _ rt
      subst ec
      obtain ⟨hget, _⟩ := I.pin (a, oe) (List.mem_append.mpr (.inl List.mem_cons_self))
      obtain ⟨vs, hv⟩ := hf
      have J : ∃ od, PySem.W.InstAt s.heap a oe D od := by
        cases d with
        | none => exact ⟨none, hget, hz.1, by unfold PySem.W.notCls; rw [hv] <;> rfl, by rw [hz.2]; trivial⟩
        | some dd =>
          obtain ⟨fs, hx⟩ := hd
          obtain ⟨mA, hns, hr⟩ := (show ObjOk X.prog X.w H s.heap dd (.xd fs) from I.hok dd _ hx)
          obtain ⟨od, ho, hl⟩ := lookIn_ns hns
          exact ⟨some od, hget, hz.1, by unfold PySem.W.notCls; rw [hv] <;> rfl, by rw [hz.2]; exact ho⟩
      obtain ⟨od, J⟩ := J
      exact PySem.W.kia_one (PySem.W.kitx_exc C.cl C.ga C.gt C.sb C.ca C.gn C.tk C.mr) I.kIn J e (fun z => nomatch z) fun tk => ⟨.bl b, H, I.kept (t' := tk) fun _ _ z => z, rfl, q⟩
end
section
variable {X : Cx} {T : Type} {a : Addr} {oe : Obj} {cls : Value} {d : Option Addr} {pn : List (Addr × Obj)} {ex : Exn} {l : Lay T} {W : WX} {o : Expr} {fo : T → Res Unit} {rows : List (Str × Bool)} {cs : List Str} {c : Str} {p p2 pos : Pos}
def exQ (S : Sh) (d : Option Addr) (n : Option Str) : Prop := match d, n with
  | some dd, some n => S dd = some (.xd [("name", .str n)]) ∧ sOk n = true
  | _, _ => d = none
theorem exD_rp {K : PySem.W.Frag} {S : Sh} {H : Hp} {v : V} {P : FP} (harg : ex.arg.isSome = d.isSome) (r : Rp K S H v (exD a d ex) P) : v = .ref a ∧ exQ S d ex.arg := by
  unfold exD at r
  generalize ex.arg = g at harg r
  cases d with
  | none => cases g with
    | none => cases r; exact ⟨rfl, rfl⟩
    | some n => cases harg
  | some dd => cases g with
    | none => cases harg
    | some n =>
      cases r with
      | exo a' dx z h1 h2 h3 => cases h3; exact ⟨rfl, h1, h2⟩
theorem exD_xd {S : Sh} {H : Hp} {g : Option Str} (hs : Same S H) (q : exQ S d g) : xdQ H d := by
  cases d with
  | none => trivial
  | some dd => cases g with
    | none => cases q
    | some n => exact ⟨_, hs _ _ q.1⟩
theorem me_isX (hcls : cls = .ref (He.ga X.K ex.cls)) (harg : ex.arg.isSome = d.isSome) (hz : Zc cls d oe) (hf : ∃ vs, oe.data = .fields vs) (hr : ∀ x b, rows.lookup x = some b → ExcK X.K (He.ga X.K x) ∧ PySem.W.kitOne X.K (.ref (He.ga X.K x)) (.ref (He.ga X.K c)) = some b)
    (ho : PE (X.suite a ((a, oe) :: pn)) o (tME X.K l W (fun _ : Unit => exD a d ex) fo)) (hnx : ∀ t, NoX (fo t)) (hg : Gl X "isinstance") (hm : X.mg "isinstance" = none) (hg2 : Gl X c) (hm2 : X.mg c = some (.ref (He.ga X.K c)))
    (hdb : (c == ("__debug__" : Str)) = false := by decide) (he : starEach [o, .Name c p2] X.env = (false, eval o X.env) :: starEach [.Name c p2] X.env := by rfl) (he2 : starEach [.Name c p2] X.env = (false, eval (.Name c p2) X.env) :: starEach [] X.env := by rfl) (hpl : (backTo pos (starEach [.Name c p2] X.env)).any (·.1) = false := by rfl) :
    PE (X.suite a ((a, oe) :: pn)) (.Call (.Name "isinstance" p) [o, .Name c p2] [] pos) (tME X.K l W eB (op1 (fun _ => isX rows ex) fo)) := by
  cases hl : rows.lookup ex.cls with
  | none =>
    refine ⟨fun pins s σ H Q I ⟨S, t, P, cf, E, q⟩ => ?_⟩
    have q := q.bind
    revert q
    have nx := hnx t
    cases hfo : fo t with
    | ok u => intro q; have q : RQ (Res.ofO (rows.lookup ex.cls)) _ _ := q; rw [hl] at q; exact q.elim
    | stuck => exact fun q => q.elim
    | ex e => exact (nx e hfo).elim
  | some b =>
    obtain ⟨hx, hk⟩ := hr _ _ hl
    subst hcls
    exact PE.imp (pe_callB (X := X.suite a ((a, oe) :: pn)) (call_isX hx hz hf) hg hm (by decide +kernel) (pa_cons ho (pa_cons (me_gl hg2 hm2 hdb) pa_nil he2) he) (by decide) (by decide) he hpl) fun σ H Q ⟨S, t, P, cf, E, q⟩ => ⟨S, t, P, cf, E, by
      refine q.bind.imp (fun u q v S1 H1 g r => ?_) fun _ z => z
      have q : RQ (Res.ofO (rows.lookup ex.cls)) _ _ := q
      rw [hl] at q
      obtain ⟨rfl, hd⟩ := exD_rp harg r
      exact ⟨_, _, b, rfl, fun u z => z, exD_xd g.sub.le hd, hk, q _ S1 H1 g (Rep.bl _ .nil)⟩⟩
/-- .. of a class of Python's own -/
theorem me_isXb {cb : String} (hcls : cls = .ref (He.ga X.K ex.cls)) (harg : ex.arg.isSome = d.isSome) (hz : Zc cls d oe) (hf : ∃ vs, oe.data = .fields vs) (hr : ∀ x b, rows.lookup x = some b → ExcK X.K (He.ga X.K x) ∧ PySem.W.kitOne X.K (.ref (He.ga X.K x)) (.type cb) = some b)
    (ho : PE (X.suite a ((a, oe) :: pn)) o (tME X.K l W (fun _ : Unit => exD a d ex) fo)) (hnx : ∀ t, NoX (fo t)) (hg : Gl X "isinstance") (hm : X.mg "isinstance" = none) (hp2 : PE (X.suite a ((a, oe) :: pn)) (.Name c p2) (fun _ H Q => Q (.ty cb) H))
    (he : starEach [o, .Name c p2] X.env = (false, eval o X.env) :: starEach [.Name c p2] X.env := by rfl) (he2 : starEach [.Name c p2] X.env = (false, eval (.Name c p2) X.env) :: starEach [] X.env := by rfl) (hpl : (backTo pos (starEach [.Name c p2] X.env)).any (·.1) = false := by rfl) :
    PE (X.suite a ((a, oe) :: pn)) (.Call (.Name "isinstance" p) [o, .Name c p2] [] pos) (tME X.K l W eB (op1 (fun _ => isX rows ex) fo)) := by
  cases hl : rows.lookup ex.cls with
  | none =>
    refine ⟨fun pins s σ H Q I ⟨S, t, P, cf, E, q⟩ => ?_⟩
    have q := q.bind
    revert q
    have nx := hnx t
    cases hfo : fo t with
    | ok u => intro q; have q : RQ (Res.ofO (rows.lookup ex.cls)) _ _ := q; rw [hl] at q; exact q.elim
    | stuck => exact fun q => q.elim
    | ex e => exact (nx e hfo).elim
  | some b =>
    obtain ⟨hx, hk⟩ := hr _ _ hl
    subst hcls
    exact PE.imp (pe_callB (X := X.suite a ((a, oe) :: pn)) (call_isX hx hz hf) hg hm (by decide +kernel) (pa_cons ho (pa_cons hp2 pa_nil he2) he) (by decide) (by decide) he hpl) fun σ H Q ⟨S, t, P, cf, E, q⟩ => ⟨S, t, P, cf, E, by
      refine q.bind.imp (fun u q v S1 H1 g r => ?_) fun _ z => z
      have q : RQ (Res.ofO (rows.lookup ex.cls)) _ _ := q
      rw [hl] at q
      obtain ⟨rfl, hd⟩ := exD_rp harg r
      exact ⟨_, _, b, rfl, fun u z => z, exD_xd g.sub.le hd, hk, q _ S1 H1 g (Rep.bl _ .nil)⟩⟩
/-- its name -/
theorem me_xname (hcls : cls = .ref (He.ga X.K ex.cls)) (harg : ex.arg.isSome = d.isSome) (hz : Zc cls d oe) (hf : ∃ vs, oe.data = .fields vs) (hr : ∀ x ∈ cs, XName X.K (He.ga X.K x))
    (ho : PE (X.suite a ((a, oe) :: pn)) o (tME X.K l W (fun _ : Unit => exD a d ex) fo)) (hnx : ∀ t, NoX (fo t)) (hb : attributeBase o "name" X.env (eval o X.env) = eval o X.env := by rfl) :
    PE (X.suite a ((a, oe) :: pn)) (.Attribute o "name" pos) (tME X.K l W eT (op1 (fun _ => nameX cs ex) fo)) := by
  by_cases hc : ex.cls ∈ cs
  · have T := hr _ hc
    exact PE.imp (pe_xf T.xf (hcls ▸ T.no) hz hf ho hb) fun σ H Q ⟨S, t, P, cf, E, q⟩ => ⟨S, t, P, cf, E, by
      refine q.bind.imp (fun u q v S1 H1 g r => ?_) fun _ z => z
      have q : RQ (Res.ofO (if ex.cls ∈ cs then ex.arg else none)) _ _ := q
      rw [if_pos hc] at q
      obtain ⟨nm, hn, q⟩ := RQ.ofO q
      obtain ⟨rfl, hd⟩ := exD_rp harg r
      rw [hn] at hd
      cases d with
      | none => rw [hn] at harg; cases harg
      | some dd => exact ⟨rfl, hcls, dd, _, .str nm, rfl, g.sub.le _ _ hd.1, rfl, q _ S1 H1 g (Rep.str _ hd.2 .nil)⟩⟩
  · refine ⟨fun pins s σ H Q I ⟨S, t, P, cf, E, q⟩ => ?_⟩
    have q := q.bind
    revert q
    have nx := hnx t
    cases hfo : fo t with
    | ok u => intro q; have q : RQ (Res.ofO (if ex.cls ∈ cs then ex.arg else none)) _ _ := q; rw [if_neg hc] at q; exact q.elim
    | stuck => exact fun q => q.elim
    | ex e => exact (nx e hfo).elim
end
end M

namespace M
open Enc (enc)
open PySem PySem.Spec PyProof.Rows L2 W
/-! ### except suites -/
section
variable {X : Cx} {T R : Type} {l : Lay T} {n i : Nat} {W : WX} {mr : Md} {er : R → D} {sts : List Stmt} {a : Addr} {oe : Obj} {cls : Value} {d : Option Addr} {pn : List (Addr × Obj)}
theorem su_as {G : Exn → Option Unit × T → Out (Option Unit × T) R} (h : ∀ ex : Exn, cls = .ref (He.ga X.K ex.cls) → ex.arg.isSome = d.isSome → MSs (X.suite a ((a, oe) :: pn)) (.cons i .sh (fun _ : Unit => exD a d ex) l) n W mr er sts (G ex)) : PSs (X.suite a ((a, oe) :: pn)) sts (tSuAs X.K l n i W mr er G a cls d) :=
  PSs.ex2 (p := fun e : Exn => cls = .ref (He.ga X.K e.cls) ∧ e.arg.isSome = d.isSome) (t := fun e => tMS X.K (.cons i .sh (fun _ : Unit => exD a d e) l) n W mr er (G e)) fun e z => h e z.1 z.2
theorem su_no {G : Exn → T → Out T R} (h : ∀ ex : Exn, MSs (X.suite a ((a, oe) :: pn)) l n W mr er sts (G ex)) : PSs (X.suite a ((a, oe) :: pn)) sts (tSu X.K l n W mr er G) := PSs.ex1 (t := fun e => tMS X.K l n W mr er (G e)) h
theorem rows_nl {P : Str → Bool → Prop} : ∀ x b, ([] : List (Str × Bool)).lookup x = some b → P x b := fun x b z => nomatch z
theorem rows_cn {P : Str → Bool → Prop} {x : Str} {b : Bool} {rows : List (Str × Bool)} (h : P x b) (r : ∀ y c, rows.lookup y = some c → P y c) : ∀ y c, ((x, b) :: rows).lookup y = some c → P y c := fun y c z => by
  rw [List.lookup_cons] at z
  by_cases e : (y == x) = true
  · rw [e] at z
    cases z
    rw [eq_of_beq e]
    exact h
  · rw [Bool.eq_false_iff.mpr e] at z
    exact r y c z
theorem mem_nl {P : Str → Prop} : ∀ x ∈ ([] : List Str), P x := fun x z => nomatch z
theorem mem_cn {P : Str → Prop} {x : Str} {cs : List Str} (h : P x) (r : ∀ y ∈ cs, P y) : ∀ y ∈ x :: cs, P y := fun y z => by
  rcases List.mem_cons.mp z with e | z
  · rw [e]; exact h
  · exact r y z
end
end M

namespace M
open Enc (enc)
open PySem PySem.Spec PyProof.Rows L2 W
/-! ### startswith, int(text) -/
section
variable {X : Cx} {T : Type} {l : Lay T} {W : WX} {o e : Expr} {f g : T → Res Str} {apos pos : Pos}
theorem me_starts (ho : PE X o (tME X.K l W eT f)) (he : PE X e (tME X.K l W eT g)) (hs : starEach [e] X.env = [(false, eval e X.env)] := by rfl) (hbase : attributeBase o "startswith" X.env (eval o X.env) = eval o X.env := by rfl) (hline : (apos.endLine == pos.line) = true := by rfl) :
    PE X (.Call (.Attribute o "startswith" apos) [e] [] pos) (tME X.K l W eB (op2 startsT f g)) := PE.imp (pe_m1 F.slot_str_startswith F.type_str_startswith mt_startswith ho he hs hbase hline) fun σ H Q ⟨S, t, P, c, E, q⟩ => ⟨S, t, P, c, E, q.bind.imp (fun a q v S1 H1 g1 r => by
  obtain ⟨rfl, _, _⟩ := Rp.str r
  refine ⟨⟨a, rfl⟩, S1, t, P, c.grow g1, E.grow g1, q.bind.imp (fun b q w S2 H2 g2 r2 => ?_) fun _ z => exq_grow z g1⟩
  obtain ⟨rfl, _, _⟩ := Rp.str r2
  exact ⟨a, b, rfl, rfl, (show ∀ v S' H', Grow l.tabs S H S' H' → Rp X.K S' H' v (eB (startsB a b)) Emp → Q v H' from q) _ S2 H2 (g1.trans g2) (Rep.bl _ .nil)⟩) fun _ z => z⟩
theorem numP_ok {s : Str} {n : Int} (h : numP s = some n) (hl : s.length ≤ 640) : PySem.intText? s = some n := by
  unfold numP at h
  split at h
  · rename_i hc
    cases h
    exact intText_digits (fun c hcm => by have := List.all_eq_true.mp hc.2 c hcm; unfold dgt at this; simpa using this) hc.1 (by omega)
  · split at h
    · rename_i c cs hcs
      split at h
      · rename_i hc
        cases h
        obtain ⟨rfl, h1, h2⟩ := hc
        exact intText_neg hcs (fun c hcm => by have := List.all_eq_true.mp h2 c hcm; unfold dgt at this; simpa using this) h1 (by omega)
      · cases h
    · cases h
theorem o_intP {K : PySem.W.Frag} : OpN K (fun xs H Q => ∃ a n, xs = [.str a] ∧ PySem.intText? a = some n ∧ a.length ≤ 640 ∧ Q (.int n) H) (a1 eT) eI (fun x => intP x.1) := ⟨fun {τ S H vs a P Q} s r q => by
  obtain ⟨v, P1, rfl, r, f⟩ := r.one
  obtain ⟨rfl, _, _⟩ := Rp.str r
  unfold intP at q
  split at q
  · rename_i hl
    obtain ⟨n, hn, q⟩ := RQ.ofO q
    exact ⟨a.1, n, rfl, numP_ok hn hl, hl, q _ S H (.refl s) (Rep.int _ .nil)⟩
  · exact q.elim, fun x => by
  unfold intP
  split
  · exact ofO_nx
  · exact fun _ z => nomatch z⟩
end
end M

namespace M
open Enc (enc)
open PySem PySem.Spec PyProof.Rows L2 W
/-! ### join; what is there, of what may be None -/
theorem ws_str {K : PySem.W.Frag} {S : Sh} {H : Hp} : ∀ {ws : List V} {xs : List Str}, Rep K S H ws (xs.map eT) Emp → ws = xs.map V.str ∧ ∀ x ∈ xs, sOk x = true
  | _, [], r => ⟨(r.nilP).1, fun _ z => nomatch z⟩
  | _, x :: xs, r => by
    obtain ⟨v, us, rfl, r1, r2⟩ := r.splitE
    obtain ⟨rfl, _, o⟩ := Rp.str r1
    obtain ⟨e, k⟩ := ws_str r2
    rw [e]
    exact ⟨rfl, fun y hy => (List.mem_cons.mp hy).elim (fun z => z ▸ o) (k y)⟩
theorem sOk_join {a : Str} (ha : sOk a = true) : ∀ {xs : List Str}, (∀ x ∈ xs, sOk x = true) → sOk (Str.join a xs) = true
  | [], _ => by
    show sOk Str.empty = true
    decide +kernel
  | [x], h => h x List.mem_cons_self
  | x :: y :: r, h => sOk_app (sOk_app (h x List.mem_cons_self) ha) (sOk_join ha fun z hz => h z (List.mem_cons_of_mem _ hz))
section
variable {X : Cx} {T α : Type} {l : Lay T} {W : WX} {o e : Expr} {f : T → Res Str} {g : T → Res (List Str)} {apos pos : Pos}
theorem me_join (ho : PE X o (tME X.K l W eT f)) (he : PE X e (tMB X.K l W (enc : List Str → D) g)) (hs : starEach [e] X.env = [(false, eval e X.env)] := by rfl) (hbase : attributeBase o "join" X.env (eval o X.env) = eval o X.env := by rfl) (hline : (apos.endLine == pos.line) = true := by rfl) :
    PE X (.Call (.Attribute o "join" apos) [e] [] pos) (tME X.K l W eT (op2 joinT f g)) := PE.imp (pe_join ho he hs hbase hline) fun σ H Q ⟨S, t, P, c, E, q⟩ => ⟨S, t, P, c, E, q.bind.imp (fun a q v S1 H1 g1 r => by
  obtain ⟨rfl, _, oa⟩ := Rp.str r
  refine ⟨⟨a, rfl⟩, S1, t, P, c.grow g1, E.grow g1, q.bind.imp (fun ys q w S2 H2 P2 g2 r2 f2 _ => ?_) fun _ z => exq_grow z g1⟩
  obtain ⟨p, ws, rfl, hsq, r3⟩ := Rp.lstF (es := ys.map eT) g2.sub r2 f2
  obtain ⟨e1, oy⟩ := ws_str r3
  subst e1
  obtain ⟨hc, q⟩ := RQ.chk q
  have q := (show ∀ v S' H', Grow l.tabs S H S' H' → Rp X.K S' H' v (eT (Str.join a ys)) Emp → Q v H' from q) (.str (Str.join a ys)) S2 H2 (g1.trans g2) (Rep.str _ (sOk_join oa oy) .nil)
  refine ⟨a, p, ys, rfl, rfl, .inl (SqL.of hsq), of_decide_eq_true hc, ?_⟩
  rw [show Txt.join a ys = Str.join a ys from StrLaws.glued_eq_join a ys]
  exact q) fun _ z => z⟩
/-- what is there -/
theorem me_unO [Enc α] {f : T → Res (Option α)} (h : PE X e (tME X.K l W (enc : Option α → D) f)) : PE X e (tME X.K l W (enc : α → D) (op1 (fun o => .ofO o) f)) := PE.imp h fun σ H Q ⟨S, t, P, c, E, q⟩ => ⟨S, t, P, c, E, q.bind.imp (fun o q v S1 H1 g1 r => by
  obtain ⟨a, rfl, q⟩ := RQ.ofO q
  exact q v S1 H1 g1 r) fun _ z => z⟩
end
end M

namespace M
open Enc (enc)
open PySem PySem.Spec PyProof.Rows L2 W
/-! ### text.split(sign) -/
theorem split_isL {x : Str} {c : Nat} : Txt.split x ⟨#[c]⟩ = (splitL c x.cps.toList).map fun p => ⟨p.toArray⟩ := by
  have h1 : (Txt.split x ⟨#[c]⟩).map (fun p => p.cps.toList) = splitL c x.cps.toList := by
    have h2 : x.cps.toList = glueL c ((Txt.split x ⟨#[c]⟩).map fun p => p.cps.toList) := by
      rw [← glueL_join, StrLaws.join_split]
    rw [h2]
    refine (splitL_glue ?_ ?_).symm
    · intro z
      have := split_pos x ⟨#[c]⟩
      rw [List.map_eq_nil_iff.mp z] at this
      exact absurd this (by decide)
    · intro p hp
      obtain ⟨y, hy, rfl⟩ := List.mem_map.mp hp
      exact StrLaws.split_free x c y hy
  rw [← h1, List.map_map]
  exact (List.map_id'' (fun s => rfl) _).symm
theorem sOk_sub {x : Str} {p : List Nat} (o : sOk x = true) (h : ∀ a ∈ p, a ∈ x.cps.toList) : sOk ⟨p.toArray⟩ = true := by
  unfold sOk PyData.strOk at o ⊢
  rw [← Array.all_toList, List.all_eq_true] at o ⊢
  exact fun a ha => o a (h a ha)
theorem splitT_nox {a b : Str} : NoX (splitT a b) := by
  unfold splitT
  split
  · exact nx_chk
  · exact fun _ z => nomatch z
theorem rep_strs {K : PySem.W.Frag} {S : Sh} {H : Hp} : ∀ {ys : List Str}, (∀ y ∈ ys, sOk y = true) → Rep K S H (ys.map V.str) (ys.map eT) Emp
  | [], _ => .nil
  | y :: ys, h => Rep.str y (h y List.mem_cons_self) (rep_strs fun z hz => h z (List.mem_cons_of_mem _ hz))
/-! ### what is not come to -/
section
variable {X : Cx} {T R : Type} {l : Lay T} {n : Nat} {W : WX} {mr : Md} {er : R → D} {st : Stmt} {sts : List Stmt}
theorem ms_stuck : MS X l n W mr er st (fun _ => .stuck) := ⟨fun _ _ _ _ _ _ ⟨_, _, _, _, _, _, q⟩ => q.elim⟩
theorem mss_stuck : MSs X l n W mr er sts (fun _ => .stuck) := ⟨fun _ _ _ _ _ _ ⟨_, _, _, _, _, _, q⟩ => q.elim⟩
end
section
variable {X : Cx} {T : Type} {l : Lay T} {W : WX} {o e : Expr} {f g : T → Res Str} {apos pos : Pos}
theorem mo_split (ho : PE X o (tME X.K l W eT f)) (he : PE X e (tME X.K l W eT g)) (hs : starEach [e] X.env = [(false, eval e X.env)] := by rfl) (hbase : attributeBase o "split" X.env (eval o X.env) = eval o X.env := by rfl) (hline : (apos.endLine == pos.line) = true := by rfl) :
    PE X (.Call (.Attribute o "split" apos) [e] [] pos) (tMO X.K l W .ow (enc : List Str → D) (op2 splitT f g)) := PE.imp (pe_split ho he hs hbase hline) fun σ H Q ⟨S, t, P, c, E, q⟩ => ⟨S, t, P, c, E, q.bind.imp (fun a q v S1 H1 g1 r => by
  obtain ⟨rfl, _, oa⟩ := Rp.str r
  refine ⟨⟨a, rfl⟩, S1, t, P, c.grow g1, E.grow g1, q.bind.imp (fun b q w S2 H2 g2 r2 => ?_) fun _ z => exq_grow z g1⟩
  obtain ⟨rfl, _, ob⟩ := Rp.str r2
  unfold splitT at q
  split at q
  · rename_i c hb
    obtain ⟨hc, q⟩ := RQ.chk q
    have eb : b = ⟨#[c]⟩ := by
      cases b with
      | mk b => rw [show b = #[c] from Array.toList_inj.mp hb]
    subst eb
    refine ⟨a, _, rfl, rfl, rfl, of_decide_eq_true hc, fun d hd => ?_⟩
    rw [split_isL]
    have oy : ∀ y ∈ (splitL c a.cps.toList).map (fun p => (⟨p.toArray⟩ : Str)), sOk y = true := fun y hy => by
      obtain ⟨p, hp, rfl⟩ := List.mem_map.mp hy
      exact sOk_sub oa (splitL_mem hp)
    obtain ⟨g3, r3, o3, n3⟩ := own_lst g2.sub hd (rep_strs oy)
    exact (show ∀ v S' H' P1, Grow l.tabs S H S' H' → Rp X.K S' H' v (enc ((splitL c a.cps.toList).map fun p => (⟨p.toArray⟩ : Str))) P1 → Md.ow.ok v P1 → (∀ x, P1 x → H x = none ∧ S' x = none) → Q v H' from q) _ S2 _ _ ((g1.trans g2).trans g3) r3 o3 fun x e => ⟨(g1.trans g2).h.free (n3 x e).1, (n3 x e).2⟩
  · exact q.elim) fun _ z => z⟩
end
end M

namespace M
open Enc (enc)
open PySem PySem.Spec PyProof.Rows L2 W
/-! ### boxes: lists and dicts as things of the world -/
structure Bx {ω α : Type} [Wd ω] (en : α → D) (get : ω → Option α) (put : ω → α → ω) : Prop where
  at_ : ∀ {o : ω} {a : α}, get o = some a → Wd.kd o = .box (en a) ∧ ∀ a', Wd.kd (put o a') = .box (en a')
theorem Bx.en {ω α : Type} [Wd ω] {en : α → D} {get : ω → Option α} {put : ω → α → ω} (b : Bx en get put) {o : ω} {a : α} (h : get o = some a) : encW o = en a := by
  unfold encW
  rw [(b.at_ h).1]
  rfl
theorem Bx.pt {ω α : Type} [Wd ω] {en : α → D} {get : ω → Option α} {put : ω → α → ω} (b : Bx en get put) {o : ω} {a : α} (h : get o = some a) (a' : α) : encW (put o a') = en a' := by
  unfold encW
  rw [(b.at_ h).2 a']
  rfl
section
variable {X : Cx} {ω T α : Type} [Wd ω] {l : Lay T} {W : WX} {e : Expr} {en : α → D} {gw : T → List ω} {pw : T → List ω → T} {get : ω → Option α} {put : ω → α → ω} {fo : T → Res Hn} {sh : Bool}
theorem mb_box [Fla en] (wr : Wr sh l (encW : ω → D) gw) (bx : Bx en get put) (ho : PE X e (tME X.K l W eH fo)) : PE X e (tMB X.K l W en (fldF gw get fo)) := PE.imp ho fun σ H Q ⟨S, t, P, c, E, q⟩ =>
  ⟨S, t, P, c, E, q.bind.imp (fun h q v S1 H1 g r => by
    obtain ⟨a, e, q⟩ := RQ.ofO q
    obtain ⟨p, rfl, hp, _⟩ := Rp.hnd r
    obtain ⟨ob, h1, h2⟩ := Option.bind_eq_some_iff.mp e
    obtain ⟨b, P1, hb, rb, k, _⟩ := wr.rd (E.grow g) h1
    rw [hp] at hb
    cases hb
    rw [bx.en h2] at rb
    exact q _ S1 H1 P1 g rb (Fla.fl a g.sub.le rb) k) fun _ z => z⟩
theorem me_boxR (wr : Wr true l (encW : ω → D) gw) (bx : Bx en get put) (ho : PE X e (tME X.K l W eH fo)) : PE X e (tME X.K l W en (fldF gw get fo)) := PE.imp ho fun σ H Q ⟨S, t, P, c, E, q⟩ =>
  ⟨S, t, P, c, E, q.bind.imp (fun h q v S1 H1 g r => by
    obtain ⟨a, e, q⟩ := RQ.ofO q
    obtain ⟨p, rfl, hp, _⟩ := Rp.hnd r
    obtain ⟨ob, h1, h2⟩ := Option.bind_eq_some_iff.mp e
    obtain ⟨b, P1, hb, rb, _, z⟩ := wr.rd (E.grow g) h1
    rw [hp] at hb
    cases hb
    rw [bx.en h2, z rfl] at rb
    exact q _ S1 H1 g rb) fun _ z => z⟩
/-- it can be changed -/
theorem mf_box (wl : Wl l (encW : ω → D) gw pw) (bx : Bx en get put) (ho : PE X e (tME X.K l W eH fo)) : PE X e (tMF true X.K l W en (fldF gw get fo) (fldSet gw pw put fo)) := PE.imp ho fun σ H Q ⟨S, t, P, c, E, q⟩ => ⟨S, t, P, c, E, by
  unfold fldF at q
  cases hf : fo t with
  | stuck => rw [hf] at q; exact q
  | ex x => rw [hf] at q; exact q
  | ok h =>
    rw [hf] at q
    intro v S1 H1 g r
    obtain ⟨a, e, q⟩ := RQ.ofO q
    obtain ⟨p, rfl, hp, _⟩ := Rp.hnd r
    obtain ⟨ob, h1, h2⟩ := Option.bind_eq_some_iff.mp e
    obtain ⟨Po, Pr, hpo, fl, ro, dj, rfl, bk⟩ := foc_obj wl (E.grow g) h1 hp
    rw [bx.en h2] at ro
    refine q p S1 H1 g ⟨Po, Pr, hpo, fl, ro, dj, rfl, fun S' H' a' P1' s m kp hp' fl' r' dj' => ?_⟩
    have es : fldSet gw pw put fo t a' = pw t ((gw t).set h.i (put ob a')) := by
      unfold fldSet
      rw [hf]
      dsimp only
      rw [h1]
    rw [es]
    exact bk S' H' (put ob a') P1' s m kp hp' fl' (by rw [bx.pt h2 a']; exact r') dj'⟩
theorem wok_box {K : PySem.W.Frag} {S : Sh} {H : Hp} {w : List ω} {P P1 : FP} {o : ω} {a : Addr} (h : WOk K S H (encW : ω → D) w P) (r : Rp K S.tup H (.ref a) (encW o) P1) (hp : P1 a) (dj : Disj P P1) :
    WOk K ⟨S.h, fun i => if i = w.length then some a else S.mu i⟩ H (encW : ω → D) (w ++ [o]) (fun x => P x ∨ P1 x) ∧ SL S ⟨S.h, fun i => if i = w.length then some a else S.mu i⟩ := by
  obtain ⟨Ps, h1, h2, h3, h4⟩ := h.ex
  have sl : SL S ⟨S.h, fun i => if i = w.length then some a else S.mu i⟩ := ⟨Same.refl S.h, fun i b e => by
    show (if i = w.length then some a else S.mu i) = some b
    by_cases hi : i = w.length
    · rw [(h2 i (by omega)).1] at e; cases e
    · rw [if_neg hi]; exact e⟩
  refine ⟨⟨fun i => if i = w.length then P1 else Ps i, fun i u e => ?_, fun i hi => ?_, fun i j ne x y z => ?_, fun x => ?_⟩, sl⟩
  · by_cases hi : i = w.length
    · subst hi
      rw [List.getElem?_append_right (Nat.le_refl _), Nat.sub_self] at e
      cases e
      refine ⟨a, by show (if _ then _ else _) = _; rw [if_pos rfl], ?_, by dsimp only; rw [if_pos rfl]; exact hp⟩
      dsimp only
      rw [if_pos rfl]
      exact r.frame sl.tup fun _ _ _ _ z => z
    · have hl : i < w.length := by
        have := (List.getElem?_eq_some_iff.mp e).1
        rw [List.length_append] at this
        simp at this
        omega
      rw [List.getElem?_append_left hl] at e
      obtain ⟨b, hb, rb, pb⟩ := h1 i u e
      refine ⟨b, sl.mu i b hb, ?_, by dsimp only; rw [if_neg hi]; exact pb⟩
      dsimp only
      rw [if_neg hi]
      exact rb.frame sl.tup fun x o _ _ z => z
  · rw [List.length_append] at hi
    simp at hi
    have ne : i ≠ w.length := by omega
    refine ⟨by show (if _ then _ else _) = _; rw [if_neg ne]; exact (h2 i (by omega)).1, fun x => ?_⟩
    dsimp only
    rw [if_neg ne]
    exact (h2 i (by omega)).2 x
  · dsimp only at y z
    by_cases e1 : i = w.length
    · rw [if_pos e1] at y
      rw [if_neg (by omega)] at z
      exact dj x ((h4 x).mpr ⟨j, z⟩) y
    · rw [if_neg e1] at y
      by_cases e2 : j = w.length
      · rw [if_pos e2] at z
        exact dj x ((h4 x).mpr ⟨i, y⟩) z
      · rw [if_neg e2] at z
        exact h3 i j ne x y z
  · constructor
    · rintro (y | y)
      · obtain ⟨i, hi⟩ := (h4 x).mp y
        have ne : i ≠ w.length := fun e => (h2 i (by omega)).2 x hi
        exact ⟨i, by dsimp only; rw [if_neg ne]; exact hi⟩
      · exact ⟨w.length, by dsimp only; rw [if_pos rfl]; exact y⟩
    · rintro ⟨i, y⟩
      by_cases e : i = w.length
      · rw [if_pos e] at y; exact .inr y
      · rw [if_neg e] at y; exact .inl ((h4 x).mpr ⟨i, y⟩)
theorem mx_box [mv : Mvs .ow en] {mk : α → ω} {f : T → OutX T α} (wl : Wl l (encW : ω → D) gw pw) (hk : ∀ a, Wd.kd (mk a) = .box (en a)) (he : PE X e (tMX X.K l W .ow en f)) : PE X e (tMX X.K l W .sh eH (boxX gw pw mk f)) := PE.imp he fun σ H Q ⟨S, t, P, c, E, q⟩ => ⟨S, t, P, c, E, by
  unfold boxX OutX.bind at q
  cases hf : f t with
  | stuck => rw [hf] at q; exact q
  | ex x t' => rw [hf] at q; exact q
  | ok a t' =>
    rw [hf] at q
    intro v S1 H1 P' P1 g E1 r o d
    obtain ⟨p, rfl, rfl⟩ := o
    obtain ⟨Ps, Pw, hw, dsw, rfl, bk⟩ := wl.split E1
    have c1 := g.cfg
    have r2 : Rp X.K S1.tup H1 (.ref p) (encW (mk a)) (fun x => x = p) := by
      unfold encW
      rw [hk a]
      exact mv.mv (S2 := S1.tup) a c1.sub.le r ⟨p, rfl, rfl⟩ (fun x hx => c1.sep x (.inr hx)) (fun p ws h => Sh.tup_sq h) fun _ _ e => e
    obtain ⟨hw2, sl⟩ := wok_box (o := mk a) hw r2 rfl fun x y z => d x (.inr y) z
    generalize hS2 : (⟨S1.h, fun i => if i = (gw t').length then some p else S1.mu i⟩ : Sh) = S2 at hw2 sl
    have eS : ∀ x, S2.h x = S1.h x := fun x => by rw [← hS2]
    have sub2 : Sub l.tabs S2 H1 := ⟨fun x o e => c1.sub x o (by rw [← eS]; exact e), fun x ps e => c1.sub.nt x ps (by rw [← eS]; exact e), c1.sub.tb⟩
    have gN : Grw l.tabs S1 H1 (fun x => (Ps x ∨ Pw x) ∨ x = p) S2 H1 (fun x => (Ps x ∨ (Pw x ∨ x = p)) ∨ Emp x) := by
      refine ⟨sl, fun z => (by rw [wl.w] at z; cases z), ⟨sub2, fun x z => ?_, fun x z => ?_⟩, fun x o _ _ e => e, fun x z => ?_, fun x o e => .inl ⟨o, by rw [← eS]; exact e⟩, fun x e => .inr e⟩
      · rw [eS]
        rcases z with (z | z | z) | z
        · exact c1.sep x (.inl (.inl z))
        · exact c1.sep x (.inl (.inr z))
        · exact c1.sep x (.inr z)
        · exact z.elim
      · rcases z with (z | z | z) | z
        · exact c1.inh x (.inl (.inl z))
        · exact c1.inh x (.inl (.inr z))
        · exact c1.inh x (.inr z)
        · exact z.elim
      · rcases z with (z | z | z) | z
        · exact .inl (.inl (.inl z))
        · exact .inl (.inl (.inr z))
        · exact .inl (.inr z)
        · exact z.elim
    have E2 : Env X.K S2 H1 σ l (pw t' (gw t' ++ [mk a])) (fun x => Ps x ∨ (Pw x ∨ x = p)) := bk S2 H1 _ _ sl (fun x o _ _ e => e) hw2 fun x y z => z.elim (dsw x y) fun z => d x (.inl y) z
    have rh : Rp X.K S2 H1 (.ref p) (eH ⟨(gw t').length⟩) Emp := Rep.hnd _ (by rw [← hS2]; show (if _ then _ else _) = _; rw [if_pos rfl]) .nil
    exact (show ∀ v S' H' P' P1, Grw l.tabs S H P S' H' (fun x => P' x ∨ P1 x) → Env X.K S' H' σ l (pw t' (gw t' ++ [mk a])) P' → Rp X.K S' H' v (eH ⟨(gw t').length⟩) P1 → Md.sh.ok v P1 → Disj P' P1 → Q v H' from q) _ S2 H1 _ Emp (g.trans gN) E2 rh rfl fun _ _ z => z⟩
end
end M

namespace M
open Enc (enc)
open PySem PySem.Spec PyProof.Rows L2 W
/-! ### bits, divmod, min -/
theorem bitAnd_nn {a b : Int} (ha : 0 ≤ a) (hb : 0 ≤ b) : Builtin.bitAnd a b = ((a.toNat &&& b.toNat : Nat) : Int) := by
  unfold Builtin.bitAnd
  rw [decide_eq_true ha, decide_eq_true hb]
theorem bitOr_nn {a b : Int} (ha : 0 ≤ a) (hb : 0 ≤ b) : Builtin.bitOr a b = ((a.toNat ||| b.toNat : Nat) : Int) := by
  unfold Builtin.bitOr
  have h1 : Builtin.bitNot a < 0 := by unfold Builtin.bitNot; omega
  have h2 : Builtin.bitNot b < 0 := by unfold Builtin.bitNot; omega
  have e1 : Builtin.bitNot (Builtin.bitNot a) = a := by unfold Builtin.bitNot; omega
  have e2 : Builtin.bitNot (Builtin.bitNot b) = b := by unfold Builtin.bitNot; omega
  unfold Builtin.bitAnd
  rw [decide_eq_false (by omega), decide_eq_false (by omega)]
  show Builtin.bitNot (Builtin.bitNot _) = _
  rw [e1, e2]
  unfold Builtin.bitNot
  omega
theorem or_disj (a b : Nat) (h : a &&& b = 0) : a ||| b = a + b := by
  induction a using Nat.strongRecOn generalizing b with
  | ind a ih =>
    by_cases ha : a = 0
    · subst ha; simp
    · have hd : a / 2 &&& b / 2 = 0 := by
        have := congrArg (· / 2) h
        simpa [Nat.and_div_two] using this
      have i := ih (a / 2) (by omega) (b / 2) hd
      have hm : (a ||| b) / 2 = a / 2 + b / 2 := by rw [Nat.or_div_two, i]
      have hb : (a ||| b) % 2 = a % 2 + b % 2 := by
        have h0 := congrArg (· % 2) h
        simp only [Nat.zero_mod] at h0
        have h4 : (a ||| b) % 2 = (a % 2) ||| (b % 2) := Nat.or_mod_two_pow (n := 1)
        have h3 : (a &&& b) % 2 = (a % 2) &&& (b % 2) := Nat.and_mod_two_pow (n := 1)
        rw [h3] at h0
        rw [h4]
        have ha2 : a % 2 = 0 ∨ a % 2 = 1 := by omega
        have hb2 : b % 2 = 0 ∨ b % 2 = 1 := by omega
        rcases ha2 with e1 | e1 <;> rcases hb2 with e2 | e2 <;> rw [e1, e2] at h0 ⊢ <;> first | rfl | exact absurd h0 (by decide)
      omega
theorem and_add_xor : ∀ m n : Nat, m ||| n = (m ^^^ n) + (m &&& n) := fun m n => by
  have h : (m ^^^ n) &&& (m &&& n) = 0 := by
    apply Nat.eq_of_testBit_eq
    intro i
    simp [Nat.testBit_and, Nat.testBit_xor]
    cases m.testBit i <;> cases n.testBit i <;> simp
  have h2 : (m ^^^ n) ||| (m &&& n) = m ||| n := by
    apply Nat.eq_of_testBit_eq
    intro i
    simp [Nat.testBit_and, Nat.testBit_xor, Nat.testBit_or]
    cases m.testBit i <;> cases n.testBit i <;> simp
  rw [← h2]
  exact or_disj (m ^^^ n) (m &&& n) h
theorem bitXor_nn {a b : Int} (ha : 0 ≤ a) (hb : 0 ≤ b) : Builtin.bitXor a b = ((a.toNat ^^^ b.toNat : Nat) : Int) := by
  unfold Builtin.bitXor
  rw [bitOr_nn ha hb, bitAnd_nn ha hb, and_add_xor]
  omega
section
variable {X : Cx} {K : PySem.W.Frag}
theorem o_and : Op2 K (rI0 fun i j => .int (Builtin.bitAnd i j)) eI eI eI andI := o_chk fun i j H Q c q => ⟨i, j, rfl, rfl, by
  have h := of_decide_eq_true c
  show Q (.int (Builtin.bitAnd i j)) H
  rw [bitAnd_nn h.1 h.2]; exact q⟩
theorem o_or : Op2 K (rI0 fun i j => .int (Builtin.bitOr i j)) eI eI eI orI := o_chk fun i j H Q c q => ⟨i, j, rfl, rfl, by
  have h := of_decide_eq_true c
  show Q (.int (Builtin.bitOr i j)) H
  rw [bitOr_nn h.1 h.2]; exact q⟩
theorem o_xor : Op2 K (rI0 fun i j => .int (Builtin.bitXor i j)) eI eI eI xorI := o_chk fun i j H Q c q => ⟨i, j, rfl, rfl, by
  have h := of_decide_eq_true c
  show Q (.int (Builtin.bitXor i j)) H
  rw [bitXor_nn h.1 h.2]; exact q⟩
theorem o_shl : Op2 K (rI CShl fun i j => .int (i * 2 ^ j.toNat)) eI eI eI shlI := o_chk fun i j H Q c q => ⟨i, j, rfl, rfl, by
  have h := of_decide_eq_true c
  have := shl_ok (j := j.toNat) h.2.2 (by omega)
  rwa [show ((j.toNat : Nat) : Int) = j by omega] at this, q⟩
theorem o_divmod : OpN K (fun xs H Q => ∃ i j, xs = [.int i, .int j] ∧ CDiv i j ∧ ∀ p, H p = none → Q (.ref p) (upd H p (.tup [.int (i / j), .int (i % j)]))) (a2 eI eI) (Enc.enc : T2 Int Int → D) (fun x => dmodI x.1 x.2.1) := ⟨fun {τ S H vs a P Q} s r q => by
  obtain ⟨v, w, P1, P2, rfl, r, f, r2, f2⟩ := r.two
  obtain ⟨rfl, _⟩ := Rp.int r
  obtain ⟨rfl, _⟩ := Rp.int r2
  obtain ⟨c, q⟩ := RQ.chk q
  have c2 : 0 < a.2.1 ∧ a.2.1 < 1073741824 := of_decide_eq_true c
  refine ⟨_, _, rfl, c2, fun p hp => ?_⟩
  have gl := Grow.lay (o := .tup [.int (a.1 / a.2.1), .int (a.1 % a.2.1)]) s hp
  exact (show ∀ v S' H', Grow τ S H S' H' → Rp K S' H' v (enc (⟨a.1 / a.2.1, a.1 % a.2.1⟩ : T2 Int Int)) Emp → Q v H' from q) _ _ _ gl ((Rep.tup (.of (show (S.upd p (.tup [.int (a.1 / a.2.1), .int (a.1 % a.2.1)])) p = _ from upd_same)) (Rep.int _ (Rep.int _ .nil)) .nil (fun z => z) fun _ z => z.elim).emp fun x z => z.elim id id), fun _ => nx_chk⟩
theorem hold_ints {h : Heap} : ∀ {its : List Value} {ns : List Int}, Vals (ns.map V.int) its → PySem.W.HoldAll h its ns
  | its, [], r => by cases r; exact .nil
  | its, n :: ns, r => by
    cases r with
    | cons r1 r2 =>
      obtain ⟨t, rfl⟩ := r1
      exact .cons ⟨_, .int n t⟩ (hold_ints r2)
theorem minOf_Z (n : Int) (ns : List Int) : PySem.W.minOf n ns = minZ n ns := by
  unfold PySem.W.minOf minZ
  congr 1
  funext a y
  show (if decide (y < a) = true then y else a) = _
  simp
theorem cr_minL (hu : X.A.units + 64 < cLine) (hc : X.calm = true) : CallR X (.builtin "min") (fun vs H Q => ∃ (p : Addr) (n : Int) (ns : List Int), vs = [.ref p] ∧ SqL X.K H p ((n :: ns).map V.int) ∧ Q (.int (minZ n ns)) H) := by
  intro pins s σ H vs us Q I r h
  obtain ⟨p, n, ns, rfl, hs, q⟩ := h
  obtain ⟨its, rv, hl, hz⟩ := I.list hs
  rw [Vals.ref1 r]
  refine PySem.W.min_list_datum (x := n) (xs := ns) (I.ok.hd hc) hl.isList (hold_ints rv) (by show X.A.units + 1 + 0 < _; omega) fun i v h' tk hi hv k => ⟨.int (minZ n ns), H, I.kept k, ?_, q⟩
  obtain ⟨as, hv⟩ := hv
  rw [minOf_Z] at hv
  cases hv with
  | int i t => exact ⟨t, rfl⟩
theorem cr_minD (hu : X.A.units + 64 < cLine) (hc : X.calm = true) : CallRK X (.builtin "min") [Str.ofString "default"] (fun vs zs H Q => ∃ (p : Addr) (ns : List Int), vs = [.ref p] ∧ zs = [.non] ∧ SqL X.K H p (ns.map V.int) ∧ Q (match minO ns with | none => .non | some m => .int m) H) := by
  intro pins s σ H vs zs us ws Q I r rz h
  obtain ⟨p, ns, rfl, rfl, hs, q⟩ := h
  obtain ⟨its, rv, hl, hz⟩ := I.list hs
  rw [Vals.ref1 r]
  obtain ⟨w1, rfl, e1⟩ := vals1 rz
  obtain rfl : w1 = Value.none := e1
  refine PySem.W.min_list_datum_default (xs := ns) (I.ok.hd hc) hl.isList (hold_ints rv) (by show X.A.units + 1 + 0 < _; omega) (fun e h' tk k => ?_) fun y ys i v h' tk e hi hv k => ?_
  · subst e
    exact ⟨.non, H, I.kept k, (show RelV V.non Value.none from rfl), q⟩
  · subst e
    refine ⟨.int (minZ y ys), H, I.kept k, ?_, q⟩
    obtain ⟨as, hv⟩ := hv
    rw [minOf_Z] at hv
    cases hv with
    | int i t => exact ⟨t, rfl⟩
end
section
variable {X : Cx} {T : Type} {l : Lay T} {W : WX} {e : Expr} {f : T → Res (List Int)} {p pos kpos : Pos}
theorem o_minL {K : PySem.W.Frag} : OpN K (fun vs H Q => ∃ (p : Addr) (n : Int) (ns : List Int), vs = [.ref p] ∧ SqL K H p ((n :: ns).map V.int) ∧ Q (.int (minZ n ns)) H) (a1 (Enc.enc : List Int → D)) eI (fun x => minL x.1) := ⟨fun {τ S H vs a P Q} s r q => by
  obtain ⟨v, P1, rfl, r, f⟩ := r.one
  obtain ⟨p, ws, rfl, h, r⟩ := Rp.lstF s r f
  rw [ws_int r] at h
  obtain ⟨xs, u⟩ := a
  cases xs with
  | nil => exact q.elim
  | cons n ns => exact ⟨p, n, ns, rfl, SqL.of h, q _ S H (.refl s) (Rep.int _ .nil)⟩, fun x => by
  unfold minL
  split
  · exact fun _ z => nomatch z
  · exact nx_ok⟩
theorem rp_optI {K : PySem.W.Frag} {S : Sh} {H : Hp} : ∀ o : Option Int, Rp K S H (match o with | none => .non | some m => .int m) (enc o) Emp
  | none => Rep.non .nil
  | some m => Rep.int m .nil
theorem me_minD {nx : Expr} (hu : X.A.units + 64 < cLine) (hc : X.calm = true) (hg : Gl X "min") (hm : X.mg "min" = none) (he : PE X e (tMB X.K l W (Enc.enc : List Int → D) f)) (hn : PE X nx (tME X.K l W (Enc.enc : Unit → D) fun _ => .ok ())) (hs : starEach [e] X.env = (false, eval e X.env) :: starEach [] X.env := by rfl)
    (he2 : backTo pos (starEach [e] X.env) = (false, eval e X.env) :: backTo pos (starEach [] X.env) := by rfl) (hpl : (backTo pos (starEach [e] X.env)).any (·.1) = false := by rfl)
    (hall : (backToKw pos (keywordEach [⟨some (Str.ofString "default"), nx, kpos⟩] X.env)).all (·.1.isSome) = true := by rfl) (hnone : (backToKw pos (keywordEach [⟨some (Str.ofString "default"), nx, kpos⟩] X.env)).any (·.1.isNone) = false := by rfl)
    (hks : (backToKw pos (keywordEach [⟨some (Str.ofString "default"), nx, kpos⟩] X.env)).filterMap (·.1) = [Str.ofString "default"] := by rfl) :
    PE X (.Call (.Name "min" p) [e] [⟨some (Str.ofString "default"), nx, kpos⟩] pos) (tME X.K l W (Enc.enc : Option Int → D) (op1 (fun xs => .ok (minO xs)) f)) :=
  PE.imp (pe_callBK (cr_minD hu hc) hg hm (by decide +kernel) (mab_cons he mab_nil hs) (pk_cons hn pk_nil) (by decide) (by decide) he2 hpl hall hnone hks) fun σ H Q ⟨S, t, P, c, E, q⟩ => ⟨S, t, P, c, E, by
    have q2 := q.bind
    show RQ ((f t).bind fun a => (Res.ok ()).bind fun b => Res.ok (a, b)) _ _
    cases hf : f t with
    | stuck => rw [hf] at q2; exact q2.elim
    | ex z => rw [hf] at q2; exact q2
    | ok xs =>
      rw [hf] at q2
      intro vs S1 H1 g1 r1
      obtain ⟨v, P1, rfl, r1, f1⟩ := r1.one
      refine ⟨S1, t, P, c.grow g1, E.grow g1, fun v2 S2 H2 g2 r2 => ?_⟩
      obtain ⟨p, ws, rfl, h, r1⟩ := Rp.lstF g2.sub (r1.grow g2) f1
      rw [ws_int r1] at h
      obtain ⟨rfl, _⟩ := Rp.non r2
      exact ⟨p, xs, rfl, rfl, SqL.of h, (show ∀ v S' H', Grow l.tabs S H S' H' → Rp X.K S' H' v (enc (minO xs)) Emp → Q v H' from q2) _ S2 H2 (g1.trans g2) (rp_optI _)⟩⟩
theorem intBits_eq (i : Int) : ((Builtin.Int.intBits i : Nat) : Int) = ((if i = 0 then 0 else i.natAbs.log2 + 1 : Nat) : Int) := by
  unfold Builtin.Int.intBits
  by_cases h : i = 0
  · subst h; rfl
  · rw [if_neg h, if_neg (by simpa using h)]
theorem me_bits {o : Expr} {apos : Pos} {fi : T → Res Int} (ho : PE X o (tME X.K l W eI fi)) (hbase : attributeBase o "bit_length" X.env (eval o X.env) = eval o X.env := by rfl) (hline : (apos.endLine == pos.line) = true := by rfl) :
    PE X (.Call (.Attribute o "bit_length" apos) [] [] pos) (tME X.K l W eI (op1 bitsI fi)) := PE.imp (L2.pe_bits ho hbase hline) fun σ H Q ⟨S, t, P, c, E, q⟩ => ⟨S, t, P, c, E, q.bind.imp (fun i q v S1 H1 g r => by
  obtain ⟨rfl, _⟩ := Rp.int r
  refine ⟨i, rfl, ?_⟩
  rw [intBits_eq]
  exact (show ∀ v S' H', Grow l.tabs S H S' H' → Rp X.K S' H' v (eI ((if i = 0 then 0 else i.natAbs.log2 + 1 : Nat) : Int)) Emp → Q v H' from q) _ S1 H1 g (Rep.int _ .nil)) fun _ z => z⟩
end
end M

namespace M
open Enc (enc)
open PySem PySem.Spec PyProof.Rows L2 W
/-! ### walks over a dict's keys -/
section
variable {X : Cx} {T κ α : Type} [KyC κ] [Enc κ] [KyE κ] [Enc α] {l : Lay T} {W : WX} {tg e : Expr} {fd : T → Res (Dct κ α)} {ad : Sh → Hp → L2.St → T → Addr → Prop}
theorem mi_keysD (a : Adr X l e (Enc.enc : Dct κ α → D) fd ad) :
    PI X tg e (tMIB (lkd ad) X.K l W true (Enc.enc : κ → D) (fun t => (fd t).bind fun d => .ok (d.kvs.map fun kv => kv.1))) := PI.imp (pi_keys a.run) fun σ H R ⟨S, t, P, b, c, E, q⟩ => by
  obtain ⟨d, p, od, ws, hd, hp, h2, kl, r, q⟩ := lk_dat a b c E q
  have hlen : ((ksD d.kvs).zip ws).length = d.kvs.length := by
    rw [List.length_zip, ← kl.len, Nat.min_self]; exact List.length_map ..
  refine ⟨S, t, P, d, p, c, E, hd, hp, fun S1 H1 g => ⟨p, od, rfl, .inl ⟨_, g.sub _ _ (g.s _ _ h2), q _ S1 H1 Emp g ⟨fun s sb _ => ⟨sb _ _ (s _ _ (g.s _ _ h2)), ?_⟩, fun hi s sb _ => ⟨sb _ _ (s _ _ (g.s _ _ h2)), ?_⟩, fun {i S' H' H2 x} hi s sb _ y => ?_⟩ (fun _ => rfl) fun _ z => z.elim⟩⟩⟩
  · rw [hlen, List.length_map]; exact Nat.le_refl _
  · rw [hlen]; rw [List.length_map] at hi; exact hi
  · obtain ⟨rfl, k, v, hk, rfl⟩ := y
    rw [List.length_map] at hi
    have r' : Rep X.K S' H2 ws (vsD d.kvs) Emp := (r.grow g).frame s fun _ _ z => z.elim
    obtain ⟨rfl, rv⟩ := zip_at hi r' hk
    have ok : kOk (KyC.ky d.kvs[i].1 : Ky) = true := kl.ok _ (List.mem_map.mpr ⟨d.kvs[i], List.getElem_mem _, rfl⟩)
    refine ⟨S', .refl sb, ?_⟩
    rw [List.getElem_map]
    exact KyE.rep d.kvs[i].1 ok
end
section
variable {X : Cx} {T β κ γ : Type} [KyC κ] [Enc κ] [KyE κ] [Enc γ] {l : Lay T} {n : Nat} {W : WX} {elt e tg : Expr} {eb : β → D} {pos : Pos} {ifs : List Expr} {scope : Scope} {own : List (Str × Nat)} {w : T → T} {c : T → Res Bool} {h : T → Res β} {en : List β → D} {fd : T → Res (Dct κ γ)} {ad : Sh → Hp → L2.St → T → Addr → Prop}
theorem mo_lcKe {p : T → κ → T} (a : Adr X l e (Enc.enc : Dct κ γ → D) fd ad) (hc : X.calm = true) (hN : X.N.Nodup) (hn : X.N.length = n) (hen : ∀ xs, en xs = .lst (xs.map eb)) (ok : BlkOk X.N X.env.scope scope own) (wp : Wip l (own.map (·.2)) w)
    (hg : ∀ (s : Shared) (H : Hp) (C : Addr) (cl : List (Str × Addr)) (fp : List Addr), PG (X.blk s H scope (compEnvC scope cl C X.env) fp) tg (tMG X.K l n (own.map (·.2)) (Enc.enc : κ → D) p)) (ht : ∀ (s : Shared) (H : Hp) (C : Addr) (cl : List (Str × Addr)) (fp : List Addr), PTs (X.blk s H scope (compEnvC scope cl C X.env) fp) ifs (tMT X.K l W0 c))
    (he : ∀ (s : Shared) (H : Hp) (C : Addr) (cl : List (Str × Addr)) (fp : List Addr), PE (X.blk s H scope (compEnvC scope cl C X.env) fp) elt (tME X.K l W0 eb h)) (hs : ∀ x, foldedSetIterable e X.env x = pure x := by intro _; rfl) :
    PE X (.ListComp elt [⟨tg, e, ifs, 0⟩] scope pos) (tMO X.K l W .ow en (lcE (fun t => (fd t).bind fun d => .ok ((fun d : Dct κ γ => d.kvs.map fun kv => kv.1) d)) w p c h)) :=
  mo_lcL (G := fun d : Dct κ γ => d.kvs.map fun kv => kv.1) a hc hN hn hen (mi_keysD a) ok wp hg ht he hs
end
end M
namespace M
open Enc (enc)
open PySem PySem.Spec PyProof.Rows L2 W
section
variable {X : Cx} {T α : Type} {l : Lay T} {W : WX} {e : Expr}
theorem mo_asT [Enc α] [Dec α] {m : Md} {f : T → Res D} (h : PE X e (tMO X.K l W m eD f)) : PE X e (tMO X.K l W m (Enc.enc : α → D) (op1 (asT α) f)) := PE.imp h fun σ H Q ⟨S, t, P, c, E, q⟩ => ⟨S, t, P, c, E, q.bind.imp (fun d q v S1 H1 P1 g r o n => by
  unfold asT at q
  obtain ⟨a, e, q⟩ := RQ.ofO q
  exact q v S1 H1 P1 g (by rw [Dec.ok e]; exact r) o n) fun _ z => z⟩
end
end M

namespace M
open Enc (enc)
open PySem PySem.Spec PyProof.Rows L2 W
/-! ### expressions that only read: all that the frame owns is shared meanwhile -/
def Lay.ro : {T : Type} → Lay T → Lay T
  | _, .nil τ => .nil τ.pure
  | _, .wld τ en => .rwd τ.pure en
  | _, .rwd τ en => .rwd τ.pure en
  | _, .cons i _ en l => .cons i .sh en l.ro
theorem Lay.ro_tabs : ∀ {T : Type} (l : Lay T), l.ro.tabs = l.tabs.pure
  | _, .nil _ => rfl
  | _, .wld _ _ => rfl
  | _, .rwd _ _ => rfl
  | _, .cons _ _ _ l => Lay.ro_tabs l
section
variable {K : PySem.W.Frag} {S : Sh} {H : Hp} {σ : L2.St}
theorem Env.ro (sub : Same S H) {Q : FP} : ∀ {T : Type} {l : Lay T} {t : T} {P : FP}, Env K S H σ l t P → (∀ x, P x → Q x) → Env K (frz S H Q) H σ l.ro t Emp
  | _, .nil _, _, P, e, _ => rfl
  | _, .rwd _ en, w, P, e, _ => by
    have e : WSh K S H en w ∧ P = Emp := e
    exact ⟨e.1.frame (frz_same sub), rfl⟩
  | _, .wld _ en, w, P, e, k => by
    have e : WOk K S H en w P := e
    obtain ⟨Ps, h1, h2, _, h4⟩ := e.ex
    refine ⟨⟨fun i o hi => ?_⟩, rfl⟩
    obtain ⟨a, ha, r, hp⟩ := h1 i o hi
    exact ⟨a, ha, Rep.freeze sub (r.frame (SL.tupL S) fun _ _ _ _ z => z) (nd_all _) (frz_same sub) (frz_sub0 sub) fun x o hx z => by rw [frz_in (k x ((h4 x).mpr ⟨i, hx⟩))]; exact z⟩
  | _, .cons _ _ _ l, (Option.none, t), P, e, k => Env.ro sub (l := l) (t := t) e k
  | _, .cons i m en l, (Option.some a, t), P, e, k => by
    obtain ⟨v, P1, P2, h, r, o, e2, dj, rfl⟩ := e
    refine ⟨v, Emp, Emp, h, Rep.freeze sub r (nd_all _) (frz_same sub) (frz_sub0 sub) (fun x o hx z => by rw [frz_in (k x (.inl hx))]; exact z), rfl, Env.ro sub e2 fun x z => k x (.inr z), fun _ z => z.elim, fp_eq fun x => ⟨fun z => z.elim, fun z => z.elim id id⟩⟩
end
section
variable {X : Cx} {T α : Type} {l lr : Lay T} {W : WX} {e : Expr} {en : α → D} {f : T → Res α} {m : Md}
theorem ro_cfg {τ : TL} {K : PySem.W.Frag} {S : Sh} {H : Hp} {σ : L2.St} {t : T} {P : FP} (c : Cfg τ S H P) (E : Env K S H σ l t P) : Cfg τ.pure (frz S H P) H Emp := ⟨(frz_sub c.sub E.ntH).re, fun _ z => z.elim, fun _ z => z.elim⟩
theorem me_ro [mv : Mvs .sh en] (h : PE X e (tME X.K lr W en f)) (hl : l.ro = lr := by rfl) : PE X e (tME X.K l W en f) := PE.imp h fun σ H Q ⟨S, t, P, c, E, q⟩ => by
  subst hl
  refine ⟨frz S H P, t, Emp, ?_, E.ro c.sub.le fun _ z => z, RQ.imp q (fun a q v S' H' g r => ?_) fun x z S' H' cls d g xr => ?_⟩
  · rw [Lay.ro_tabs]; exact ro_cfg c E
  · have g2 : Grow l.tabs (frz S H P) H S' H' := g.re (by rw [Lay.ro_tabs])
    obtain ⟨g3, t3⟩ := Grow.unfrz (K := X.K) c E.tupH E.ntH g2
    exact q v (M.unfrz P S') H' g3 (mv.mv a g.sub.le r rfl (fun _ z => z.elim) t3 fun _ _ e => e)
  · have g2 : Grow l.tabs (frz S H P) H S' H' := g.re (by rw [Lay.ro_tabs])
    exact z (M.unfrz P S') H' cls d (Grow.unfrz (K := X.K) c E.tupH E.ntH g2).1 (xr.unfrz c E g2)
open Classical in
theorem mo_ro [mv : Mvs m en] (h : PE X e (tMO X.K lr W m en f)) (hl : l.ro = lr := by rfl) : PE X e (tMO X.K l W m en f) := PE.imp h fun σ H Q ⟨S, t, P, c, E, q⟩ => by
  subst hl
  refine ⟨frz S H P, t, Emp, ?_, E.ro c.sub.le fun _ z => z, RQ.imp q (fun a q v S' H' P1 g r o n => ?_) fun x z S' H' cls d g xr => ?_⟩
  · rw [Lay.ro_tabs]; exact ro_cfg c E
  · have g2 : Grow l.tabs (frz S H P) H S' H' := g.re (by rw [Lay.ro_tabs])
    obtain ⟨g3, t3⟩ := Grow.unfrz (K := X.K) c E.tupH E.ntH g2
    have hn : ∀ x, P1 x → (M.unfrz P S') x = none := fun x hx => by
      show (if P x then none else S' x) = none
      split
      · rfl
      · exact (n x hx).2
    exact q v (M.unfrz P S') H' P1 g3 (mv.mv a g.sub.le r o (fun x hx => (n x hx).2) t3 fun _ _ e => e) o fun x hx => ⟨(n x hx).1, hn x hx⟩
  · have g2 : Grow l.tabs (frz S H P) H S' H' := g.re (by rw [Lay.ro_tabs])
    exact z (M.unfrz P S') H' cls d (Grow.unfrz (K := X.K) c E.tupH E.ntH g2).1 (xr.unfrz c E g2)
end
end M

namespace M
open Enc (enc)
open PySem PySem.Spec PyProof.Rows L2 W
/-! ### xs.pop() -/
section
variable {X : Cx} {T α γ : Type} {l : Lay T} {W : WX} {o : Expr} {pos' apos cpos : Pos} {b : Bool} {ea : α → D} {ec : γ → D}
theorem mx_lm0 [Enc α] {id : String} {name : Str} {r : V → List V → Hp → VK → Prop} {F : List α → Unit → Res (γ × List α)} {get : T → Res (List α)} {set : T → List α → T} (pa : PlainAttrs "list") (slot : Slot "list" name id) (hty : typeOf (.builtin id) = pure (.type "method_descriptor")) (hm : MtR X id r)
    (op : LOp X.K r (Enc.enc : α → D) nilD ec F) (se : SelE b (Enc.enc : α → D)) (ecx : ∀ {K : PySem.W.Frag} {S : Sh} {H H' : Hp} {v : V} (c : γ), Rp K S H v (ec c) Emp → Rp K S H' v (ec c) Emp) (ho : PE X o (tMF b X.K l W (Enc.enc : List α → D) get set))
    (hbase : attributeBase o name X.env (eval o X.env) = eval o X.env := by rfl) (hline : (apos.endLine == cpos.line) = true := by rfl) :
    PE X (.Call (.Attribute o name apos) [] [] cpos) (tMX X.K l W .sh ec (mutX get set (fun _ => .ok ()) F)) := PE.imp (pe_bm0 pa slot hty hm ho hbase hline) fun σ H Q ⟨S, t, P, c, E, q⟩ => ⟨S, t, P, c, E, by
  unfold mutX at q
  cases hg : get t with
  | stuck => rw [hg] at q; exact q
  | ex x => rw [hg] at q; exact fun S' H' cls d g r => q cls d S' H' P (g.grw c) (E.grow g) r
  | ok xs =>
    simp only [hg] at q
    intro p S1 H1 g1 fo
    have c1 := c.grow g1
    obtain ⟨ws, hH, hp, r1, bk⟩ := foc_lst fo se c1
    refine ⟨.inl ⟨rfl, ws, SqL.of hH⟩, ?_⟩
    refine op.run (y := ()) (SL.selL b S1) (fun v a r => se.mv a r) g1.sub.le hH r1 .nil ?_
    have nx := op.nox xs ()
    cases hF : F xs () with
    | stuck => simp only [hF] at q; exact q
    | ex x => exact absurd hF (nx x)
    | ok w =>
      simp only [hF] at q
      intro z ws' r3 r4
      obtain ⟨gw, E3⟩ := bk ws' w.2 S1 H1 (.refl g1.sub) r3
      exact q z S1 _ P Emp (by rw [or_emp]; exact (g1.grw c).trans gw) E3 (ecx _ r4) rfl fun _ _ z => z⟩
theorem rep_last {K : PySem.W.Frag} {S : Sh} {H : Hp} {xs : List α} {ws : List V} (r : Rep K S H ws (xs.map ea) Emp) : Rep K S H ws.dropLast (xs.dropLast.map ea) Emp := by
  have h := r.take (xs.length - 1)
  rw [List.dropLast_eq_take, List.dropLast_eq_take, List.map_take]
  have hl : ws.length = xs.length := by rw [r.len, List.length_map]
  rw [hl]
  exact h
theorem lop_pop {K : PySem.W.Frag} : LOp K rPop ea nilD ea lPop := ⟨fun {Se S H p ws xs vs y Q} sl up sub hH r1 r2 q => by
  obtain ⟨rfl, _⟩ := r2.nilP
  obtain ⟨x, hx, q⟩ := (RQ.bind q).ofO
  have hl : ws.length = xs.length := by rw [r1.len, List.length_map]
  obtain ⟨w, hw, rw'⟩ := Rep.getE r1 (i := xs.length - 1) (d := ea x) (by rw [List.getElem?_map, hx]; rfl)
  exact ⟨p, ws, w, rfl, rfl, hH, by rw [hl]; exact hw, q w _ (rep_last r1) (rw'.frame sl fun _ _ z => z.elim)⟩, fun xs y e h => by
  unfold lPop at h
  cases h3 : xs[xs.length - 1]? with
  | none => simp [h3] at h
  | some x => simp [h3] at h⟩
end
/-! ### == of two dicts of plain things that are equal -/
class FlE (α : Type) [Enc α] : Prop where
  fl : ∀ {K : PySem.W.Frag} {S : Sh} {H H' : Hp} {v w : V} {a : α} {P Q : FP}, Rp K S H v (enc a) P → Rp K S H' w (enc a) Q → v = w ∧ flatB w = true
instance : FlE Int := ⟨fun r q => by
  obtain ⟨e1, _⟩ := Rp.int r
  obtain ⟨e2, _⟩ := Rp.int q
  exact ⟨by rw [e1, e2], by rw [e2]; rfl⟩⟩
instance : FlE Bool := ⟨fun r q => by
  obtain ⟨e1, _⟩ := Rp.bl r
  obtain ⟨e2, _⟩ := Rp.bl q
  exact ⟨by rw [e1, e2], by rw [e2]; rfl⟩⟩
instance : FlE Str := ⟨fun r q => by
  obtain ⟨e1, _⟩ := Rp.str r
  obtain ⟨e2, _⟩ := Rp.str q
  exact ⟨by rw [e1, e2], by rw [e2]; rfl⟩⟩
instance {α : Type} [Enc α] [f : FlE α] : FlE (Option α) := ⟨fun {K S H H' v w a P Q} r q => by
  cases a with
  | none =>
    obtain ⟨e1, _⟩ := Rp.non r
    obtain ⟨e2, _⟩ := Rp.non q
    exact ⟨by rw [e1, e2], by rw [e2]; rfl⟩
  | some a => exact f.fl (a := a) r q⟩
theorem o_eqKF {κ α : Type} [KyC κ] [Enc κ] [KyE κ] [DecidableEq κ] [Enc α] [DecidableEq α] [fe : FlE α] {K : PySem.W.Frag} : Op2 K (rEqK K) (enc : Dct κ α → D) enc eB eqK := ⟨fun {τ S H x y a b P1 P2 Q} s rx ry f1 f2 q => by
  obtain ⟨hc, q⟩ := q.chk
  obtain ⟨hl, hp⟩ := of_decide_eq_true hc
  obtain ⟨p1, ws, rfl, h1, kl1, r1⟩ := Rp.dicF s rx f1
  obtain ⟨p2, us, rfl, h2, kl2, r2⟩ := Rp.dicF s ry f2
  refine ⟨p1, p2, _, _, rfl, rfl, h1, h2, ?_, fun p hm => ?_, q _ S H (.refl s) (Rep.bl _ .nil)⟩
  · rw [List.length_zip, List.length_zip, ← kl1.len, ← kl2.len, Nat.min_self, Nat.min_self]
    simpa using hl
  · obtain ⟨i, hi⟩ := List.mem_iff_getElem?.mp hm
    obtain ⟨k, w⟩ := p
    have hi2 : i < a.kvs.length := by
      have := (List.getElem?_eq_some_iff.mp hi).1
      rw [List.length_zip, List.length_map] at this
      omega
    obtain ⟨rfl, rw_⟩ := zip_at hi2 r1 hi
    have hv := val_get (a.kvs[i].1) r2
    have hg : getK b.kvs a.kvs[i].1 = some a.kvs[i].2 := hp _ (List.getElem_mem hi2)
    rw [hg] at hv
    obtain ⟨v, hv, rv⟩ := hv
    obtain ⟨e, fl⟩ := fe.fl rw_ rv
    exact ⟨v, hv, e, fl⟩, fun _ _ => nx_chk⟩
end M

namespace M
open PySem (Str)
/-! ### Sup: how a mirror ends, in plain Lean -/
section
variable {S R T α β γ δ : Type}
def Res.W (r : Res α) (E : Exn → Prop) (Q : α → Prop) : Prop := match r with
  | .ok a => Q a
  | .ex e => E e
  | .stuck => False
/-- what is asked of each way out -/
structure Po (S R : Type) where
  nx : S → Prop
  rt : R → S → Prop
  bk : S → Prop
  ct : S → Prop
  ex : Exn → S → Prop
def Out.W (o : Out S R) (p : Po S R) : Prop := match o with
  | .nx s => p.nx s
  | .rt r s => p.rt r s
  | .bk s => p.bk s
  | .ct s => p.ct s
  | .ex e s => p.ex e s
  | .stuck => False
abbrev No : Exn → Prop := fun _ => False
variable {E E' : Exn → Prop} {Q Q' : α → Prop} {Q2 : β → Prop} {p p' : Po S R} {s : S}
theorem eq_of_W {r : Res α} {a : α} (h : r.W No (fun b => b = a)) : r = .ok a := by
  cases r with
  | ok b => exact congrArg _ h
  | ex e => exact h.elim
  | stuck => exact h.elim
theorem ok_of_W {r : Res α} (h : r.W No Q) : ∃ a, r = .ok a ∧ Q a := by
  cases r with
  | ok b => exact ⟨b, rfl, h⟩
  | ex e => exact h.elim
  | stuck => exact h.elim
theorem Res.W.imp {r : Res α} (h : r.W E Q) (a : ∀ x, Q x → Q' x) (b : ∀ e, E e → E' e) : r.W E' Q' := by
  cases r with
  | ok x => exact a x h
  | ex e => exact b e h
  | stuck => exact h
theorem Res.W.to {r : Res α} (h : r.W No Q) (a : ∀ x, Q x → Q' x) : r.W E Q' := h.imp a fun _ z => z.elim
theorem Out.W.imp {o : Out S R} (h : o.W p) (a : ∀ s, p.nx s → p'.nx s) (b : ∀ r s, p.rt r s → p'.rt r s) (c : ∀ s, p.bk s → p'.bk s) (d : ∀ s, p.ct s → p'.ct s) (e : ∀ x s, p.ex x s → p'.ex x s) : o.W p' := by
  cases o with
  | nx s => exact a s h
  | rt r s => exact b r s h
  | bk s => exact c s h
  | ct s => exact d s h
  | ex x s => exact e x s h
  | stuck => exact h
/-! values -/
theorem W_ok {a : α} : (Res.ok a).W E Q = Q a := propext Iff.rfl
theorem W_ex {e : Exn} : (Res.ex e : Res α).W E Q = E e := propext Iff.rfl
theorem W_bind {r : Res α} {k : α → Res β} : (r.bind k).W E Q2 = r.W E fun a => (k a).W E Q2 := by cases r <;> rfl
theorem W_ofO {a : α} : (Res.ofO (some a)).W E Q = Q a := propext Iff.rfl
theorem W_chk {c : Bool} {a : α} : (Res.chk c a).W E Q = (c = true ∧ Q a) := by cases c <;> simp [Res.chk, Res.W]
theorem W_op1 {g : α → Res β} {f : S → Res α} : (op1 g f s).W E Q2 = (f s).W E fun a => (g a).W E Q2 := W_bind
theorem W_op2 {g : α → β → Res γ} {f : S → Res α} {h : S → Res β} {Q : γ → Prop} : (op2 g f h s).W E Q = (f s).W E fun a => (h s).W E fun b => (g a b).W E Q := by unfold op2; rw [W_bind]; congr; funext a; exact W_bind
theorem W_op3 {g : α → β → γ → Res δ} {f : S → Res α} {h : S → Res β} {k : S → Res γ} {Q : δ → Prop} : (op3 g f h k s).W E Q = (f s).W E fun a => (h s).W E fun b => (k s).W E fun c => (g a b c).W E Q := by
  unfold op3; rw [W_bind]; congr; funext a; rw [W_bind]; congr; funext b; exact W_bind
theorem W_iteE {c : S → Res Bool} {f g : S → Res α} : (iteE c f g s).W E Q = (c s).W E fun x => if x = true then (f s).W E Q else (g s).W E Q := by unfold iteE; rw [W_bind]; congr; funext x; cases x <;> rfl
theorem W_andE {c d : S → Res Bool} {Q : Bool → Prop} : (andE c d s).W E Q = (c s).W E fun x => if x = true then (d s).W E Q else Q false := by unfold andE; rw [W_bind]; congr; funext x; cases x <;> rfl
theorem W_orE {c d : S → Res Bool} {Q : Bool → Prop} : (orE c d s).W E Q = (c s).W E fun x => if x = true then Q true else (d s).W E Q := by unfold orE; rw [W_bind]; congr; funext x; cases x <;> rfl
theorem W_notE {c : S → Res Bool} {Q : Bool → Prop} : (notE c s).W E Q = (c s).W E fun x => Q (!x) := by unfold notE; rw [W_bind]; rfl
theorem W_chainE {h : α → β → Res Bool} {h2 : β → γ → Res Bool} {f : S → Res α} {g : S → Res β} {k : S → Res γ} {Q : Bool → Prop} : (chainE h h2 f g k s).W E Q = (f s).W E fun a => (g s).W E fun b => (h a b).W E fun x => if x = true then (k s).W E fun c => (h2 b c).W E Q else Q false := by
  unfold chainE; rw [W_bind]; congr; funext a; rw [W_bind]; congr; funext b; rw [W_bind]; congr; funext x; cases x
  · rfl
  · exact W_bind
def MulOk (a b : Int) : Prop := a.natAbs < 2 ^ 64 ∨ b.natAbs < 2 ^ 64 ∨ a.natAbs.log2 + b.natAbs.log2 < 1000000
theorem MulOk.l {a b : Int} (h : -18446744073709551616 < a ∧ a < 18446744073709551616) : MulOk a b := .inl (by omega)
theorem MulOk.r {a b : Int} (h : -18446744073709551616 < b ∧ b < 18446744073709551616) : MulOk a b := .inr (.inl (by omega))
def DivOk (b : Int) : Prop := 0 < b ∧ b.natAbs.log2 < 9000
theorem DivOk.of {b : Int} (h : 0 < b ∧ b < 18446744073709551616) : DivOk b := ⟨h.1, by
  have h1 : b.natAbs < 2 ^ 64 := by omega
  have h2 : b.natAbs ≠ 0 := by omega
  have := (Nat.log2_lt h2).mpr h1
  omega⟩
theorem DivOk.pos {b : Int} (h : DivOk b) : 0 < b := h.1
theorem DivOk.p38 : DivOk (10 ^ 38) := ⟨by decide, by decide⟩
section
variable {Q : Int → Prop} {a b : Int}
theorem W_addI : (addI a b).W E Q = Q (a + b) := propext Iff.rfl
theorem W_subI : (subI a b).W E Q = Q (a - b) := propext Iff.rfl
theorem W_mulI : (mulI a b).W E Q = (MulOk a b ∧ Q (a * b)) := by unfold mulI MulOk; rw [W_chk, decide_eq_true_eq]
theorem W_divI : (divI a b).W E Q = (DivOk b ∧ Q (a / b)) := by unfold divI DivOk; rw [W_chk, decide_eq_true_eq]
theorem W_modI : (modI a b).W E Q = (0 < b ∧ Q (a % b)) := by unfold modI; rw [W_chk, decide_eq_true_eq]
theorem W_negI : (negI a).W E Q = Q (-a) := propext Iff.rfl
end
section
variable {Q : Bool → Prop} {a b : Int}
theorem W_ltI : (ltI a b).W E Q = Q (decide (a < b)) := propext Iff.rfl
theorem W_leI : (leI a b).W E Q = Q (decide (a ≤ b)) := propext Iff.rfl
theorem W_gtI : (gtI a b).W E Q = Q (decide (b < a)) := propext Iff.rfl
theorem W_geI : (geI a b).W E Q = Q (decide (b ≤ a)) := propext Iff.rfl
theorem W_eqA [DecidableEq α] {a b : α} : (eqA a b).W E Q = Q (decide (a = b)) := propext Iff.rfl
theorem W_neA [DecidableEq α] {a b : α} : (neA a b).W E Q = Q (!decide (a = b)) := propext Iff.rfl
theorem W_inL [DecidableEq α] {a : α} {xs : List α} : (inL a xs).W E Q = Q (decide (a ∈ xs)) := propext Iff.rfl
theorem W_ninL [DecidableEq α] {a : α} {xs : List α} : (ninL a xs).W E Q = Q (!decide (a ∈ xs)) := propext Iff.rfl
theorem W_isNo {a : Option α} {u : Unit} : (isNo a u).W E Q = Q a.isNone := propext Iff.rfl
theorem W_notNo {a : Option α} {u : Unit} : (notNo a u).W E Q = Q (!a.isNone) := propext Iff.rfl
theorem W_anyL {xs : List Bool} : (anyL xs).W E Q = Q (xs.any id) := propext Iff.rfl
theorem W_allL {xs : List Bool} : (allL xs).W E Q = Q (xs.all id) := propext Iff.rfl
end
theorem W_sumL {xs : List Int} {Q : Int → Prop} : (sumL xs).W E Q = Q xs.sum := propext Iff.rfl
theorem W_lenL {xs : List α} {Q : Int → Prop} : (lenL xs).W E Q = Q (xs.length : Int) := propext Iff.rfl
theorem W_min2 {a b : Int} {Q : Int → Prop} : (min2 a b).W E Q = Q (if b < a then b else a) := propext Iff.rfl
theorem W_max2 {a b : Int} {Q : Int → Prop} : (max2 a b).W E Q = Q (if b > a then b else a) := propext Iff.rfl
theorem W_intB {b : Bool} {Q : Int → Prop} : (intB b).W E Q = Q (if b then 1 else 0) := propext Iff.rfl
theorem W_idxL {xs : List α} {i : Int} : (idxL xs i).W E Q = ∃ a, atI xs i = some a ∧ Q a := by
  unfold idxL
  cases h : atI xs i with
  | none => simp [Res.ofO, Res.W]
  | some a => simp [Res.ofO, Res.W]
theorem W_sizeL {xs : List α} {Q : List α → Prop} : (sizeL xs).W E Q = (xs.length ≤ sizeLn ∧ Q xs) := by unfold sizeL; rw [W_chk, decide_eq_true_eq]
theorem W_catL {xs ys : List α} {Q : List α → Prop} : (catL xs ys).W E Q = (xs.length + ys.length ≤ sizeLn ∧ Q (xs ++ ys)) := by unfold catL; rw [W_chk, decide_eq_true_eq]
theorem W_rng0 {n : Int} {Q : List Int → Prop} : (rng 0 n).W E Q = ((-(2 ^ 62) ≤ n ∧ n < 2 ^ 62) ∧ Q ((List.range n.toNat).map fun (k : Nat) => (k : Int))) := by
  unfold rng
  rw [W_chk, decide_eq_true_eq]
  have e : ((List.range (n - 0).toNat).map fun (k : Nat) => (0 : Int) + (k : Int)) = (List.range n.toNat).map fun (k : Nat) => (k : Int) := by simp
  rw [e]
  exact propext ⟨fun h => ⟨⟨h.1.2.2.1, h.1.2.2.2⟩, h.2⟩, fun h => ⟨⟨by decide, by decide, h.1.1, h.1.2⟩, h.2⟩⟩
theorem W_rng {a n : Int} {Q : List Int → Prop} : (rng a n).W E Q = ((-(2 ^ 62) ≤ a ∧ a < 2 ^ 62 ∧ -(2 ^ 62) ≤ n ∧ n < 2 ^ 62) ∧ Q ((List.range (n - a).toNat).map fun (k : Nat) => a + (k : Int))) := by unfold rng; rw [W_chk, decide_eq_true_eq]
section
variable {Q : Str → Prop} {a b : Str}
theorem W_addT : (addT a b).W E Q = (a.length + b.length ≤ sizeLn ∧ Q (a ++ b)) := by unfold addT; rw [W_chk, decide_eq_true_eq]
theorem W_idxT {i : Int} : (idxT a i).W E Q = (a.length ≤ sizeLn ∧ ∃ c, atI a.cps.toList i = some c ∧ Q (one c)) := by
  unfold idxT
  rw [W_bind, W_chk, decide_eq_true_eq, W_bind]
  congr 1
  cases h : atI a.cps.toList i with
  | none => simp [Res.ofO, Res.W]
  | some c => simp [Res.ofO, Res.W]
def cutZ (a : Str) (lo hi : Option Int) : Str := ⟨(cut a.cps.toList lo hi).toArray⟩
theorem W_cutT {lo hi : Option Int} : (cutT a lo hi).W E Q = (a.length ≤ sizeLn ∧ Q (cutZ a lo hi)) := by unfold cutT; rw [W_chk, decide_eq_true_eq]; rfl
theorem W_lenT {Q : Int → Prop} : (lenT a).W E Q = (a.length ≤ sizeLn ∧ Q (a.length : Int)) := by unfold lenT; rw [W_chk, decide_eq_true_eq]
theorem W_ltT {Q : Bool → Prop} : (ltT a b).W E Q = Q (decide (a.cps.toList < b.cps.toList)) := propext Iff.rfl
end
/-! statements -/
theorem W_seq {a b : S → Out S R} : (seqS a b s).W p = (a s).W { p with nx := fun s' => (b s').W p } := by unfold seqS; cases a s <;> rfl
theorem W_asg {f : S → Res α} {put : S → α → S} : (asgS f put s : Out S R).W p = (f s).W (fun e => p.ex e s) fun a => ∀ v, v = a → p.nx (put s v) := by
  unfold asgS andS
  cases f s with
  | ok a => exact propext ⟨fun h v e => e ▸ h, fun h => h a rfl⟩
  | ex e => rfl
  | stuck => rfl
theorem W_drop {f : S → Res α} : (dropS f s : Out S R).W p = (f s).W (fun e => p.ex e s) fun _ => p.nx s := by unfold dropS andS; cases f s <;> rfl
theorem W_ret {f : S → Res R} : (retS f s).W p = (f s).W (fun e => p.ex e s) (fun r => p.rt r s) := by unfold retS andS; cases f s <;> rfl
theorem W_if {c : S → Res Bool} {a b : S → Out S R} : (ifS c a b s).W p = (c s).W (fun e => p.ex e s) fun x => if x = true then (a s).W p else (b s).W p := by
  unfold ifS andS
  cases c s with
  | ok x => cases x <;> rfl
  | ex e => rfl
  | stuck => rfl
theorem W_skip : (skipS s : Out S R).W p = p.nx s := propext Iff.rfl
theorem W_brk : (brkS s : Out S R).W p = p.bk s := propext Iff.rfl
theorem W_cnt : (cntS s : Out S R).W p = p.ct s := propext Iff.rfl
theorem W_pre {g : S → S} {a : S → Out S R} : (preS g a s).W p = (a (g s)).W p := propext Iff.rfl
theorem W_for {f : S → Res (List α)} {put : S → α → S} {body : S → Out S R} : (forS f put body s).W p = (f s).W (fun e => p.ex e s) fun xs => (loopL put body xs s).W p := by unfold forS andS; cases f s <;> rfl
theorem W_forK {f : S → Res (List α)} {put : S → α → S} {body : S → Out S R} : (forK f put body s).W p = (f s).W (fun e => p.ex e s) fun xs => (loopL put body xs s).W { p with ex := fun _ _ => False } := by
  unfold forK andS
  cases f s with
  | ok xs =>
    show (loopL put body xs s).str.W p = (loopL put body xs s).W _
    cases loopL put body xs s <;> rfl
  | ex e => rfl
  | stuck => rfl
theorem W_app {get : S → Option (List α)} {put : S → Option (List α) → S} {f : S → Res α} {xs : List α} (h : get s = some xs) : (appF get put f s : Out S R).W p = (f s).W (fun e => p.ex e s) fun a => xs.length < sizeLn ∧ p.nx (put s (some (xs ++ [a]))) := by
  unfold appF
  rw [h]
  cases f s with
  | ok a =>
    by_cases hl : xs.length < sizeLn
    · simp [hl, Out.W, Res.W]
    · simp [hl, Out.W, Res.W]
  | ex e => rfl
  | stuck => rfl
theorem W_retT {get : S → Option R} {put : S → Option R → S} {r : R} (h : get s = some r) : (retTF get put s).W p = p.rt r (put s none) := by unfold retTF; rw [h]; rfl
theorem W_rtN {p : Po S Unit} : (Out.rt () s : Out S Unit).W p = p.rt () s := propext Iff.rfl
theorem W_endF {o : Out S R} {Q : R → Prop} : (endF o).W E Q = o.W ⟨fun _ => False, fun r _ => Q r, fun _ => False, fun _ => False, fun e _ => E e⟩ := by cases o <;> rfl
theorem W_endU {o : Out S Unit} {Q : Unit → Prop} : (endU o).W E Q = o.W ⟨fun _ => Q (), fun r _ => Q r, fun _ => False, fun _ => False, fun e _ => E e⟩ := by cases o <;> rfl
/-- a loop over a list -/
theorem W_loop {put : S → α → S} {body : S → Out S R} (I : List α → S → Prop) : ∀ (xs pre : List α) (s : S), I pre s →
    (∀ pre' x post s, pre' ++ x :: post = pre ++ xs → I pre' s → (body (put s x)).W { p with nx := I (pre' ++ [x]), ct := I (pre' ++ [x]), bk := p.nx }) → (∀ s, I (pre ++ xs) s → p.nx s) → (loopL put body xs s).W p
  | [], pre, s, h, _, e => e s (by simpa using h)
  | x :: xs, pre, s, h, st, e => by
    have h1 := st pre x xs s rfl h
    have hr : ∀ s', I (pre ++ [x]) s' → (loopL put body xs s').W p := fun s' h' => W_loop I xs (pre ++ [x]) s' h' (fun pre' y post s'' he => st pre' y post s'' (by simpa using he)) (by simpa using e)
    unfold loopL
    revert h1
    cases body (put s x) with
    | nx s' => exact hr s'
    | ct s' => exact hr s'
    | rt r s' => exact id
    | bk s' => exact id
    | ex e s' => exact id
    | stuck => exact id
/-- a loop by a test, with a measure -/
theorem W_whileAux {c : S → Res Bool} {body : S → Out S R} (I : S → Prop) (m : S → Nat) (st : ∀ s, I s → (c s).W (fun e => p.ex e s) fun x => if x = true then (body s).W { p with nx := fun s' => I s' ∧ m s' < m s, ct := fun s' => I s' ∧ m s' < m s, bk := p.nx } else p.nx s) :
    ∀ (n : Nat) (s : S), m s ≤ n → I s → (loopW c body (n + 1) s).W p
  | n, s, hn, h => by
    have h1 := st s h
    unfold loopW
    revert h1
    cases c s with
    | stuck => exact id
    | ex e => exact id
    | ok x =>
      cases x with
      | false => exact id
      | true =>
        intro h1
        replace h1 : (body s).W { p with nx := fun s' => I s' ∧ m s' < m s, ct := fun s' => I s' ∧ m s' < m s, bk := p.nx } := h1
        revert h1
        have go : ∀ s', I s' ∧ m s' < m s → (loopW c body n s').W p := fun s' ⟨h2, h3⟩ => by
          cases n with
          | zero => omega
          | succ n => exact W_whileAux I m st n s' (by omega) h2
        show _ → Out.W (match body s with
          | .nx s' => loopW c body n s'
          | .ct s' => loopW c body n s'
          | .bk s' => .nx s'
          | .rt r s' => .rt r s'
          | .ex e s' => .ex e s'
          | .stuck => .stuck) p
        cases body s with
        | nx s' => exact go s'
        | ct s' => exact go s'
        | rt r s' => exact id
        | bk s' => exact id
        | ex e s' => exact id
        | stuck => exact id
theorem W_while {c : S → Res Bool} {body : S → Out S R} (I : S → Prop) (m : S → Nat) (st : ∀ s, I s → (c s).W (fun e => p.ex e s) fun x => if x = true then (body s).W { p with nx := fun s' => I s' ∧ m s' < m s, ct := fun s' => I s' ∧ m s' < m s, bk := p.nx } else p.nx s) (h : I s) : (whileS c body s).W p := by
  have h1 := W_whileAux I m st (m s) s (Nat.le_refl _) h
  rw [whileS_of (n := m s + 1)]
  · exact h1
  · intro e
    rw [e] at h1
    exact h1
/-! comprehensions -/
theorem lcR_ok {xs : List α} {c : α → Res Bool} {f : α → Res β} {q : α → Bool} {g : α → β} : (∀ x ∈ xs, c x = .ok (q x)) → (∀ x ∈ xs, q x = true → f x = .ok (g x)) → lcR xs c f = .ok ((xs.filter q).map g) := by
  induction xs with
  | nil => exact fun _ _ => rfl
  | cons x xs ih =>
    intro hc hf
    unfold lcR
    rw [hc x List.mem_cons_self]
    have i := ih (fun y hy => hc y (List.mem_cons_of_mem _ hy)) fun y hy => hf y (List.mem_cons_of_mem _ hy)
    cases e : q x with
    | true =>
      rw [List.filter_cons_of_pos e, str_ok, bind_ok, if_pos rfl, hf x List.mem_cons_self e, str_ok, bind_ok, i]
      rfl
    | false =>
      rw [List.filter_cons_of_neg (by rw [e]; decide), str_ok, bind_ok, if_neg (by decide), i]
theorem W_lcE {f : S → Res (List α)} {w : S → S} {pt : S → α → S} {c : S → Res Bool} {h : S → Res β} {Q : List β → Prop} : (lcE f w pt c h s).W E Q = (f s).W E fun xs => (lcR xs (fun a => c (pt (w s) a)) (fun a => h (pt (w s) a))).W E fun ys => ys.length ≤ sizeLn ∧ Q ys := by
  unfold lcE
  rw [W_bind]
  congr
  funext xs
  rw [W_bind]
  congr
  funext ys
  exact W_sizeL
theorem W_lcR {xs : List α} {c : α → Res Bool} {f : α → Res β} (q : α → Bool) (g : α → β) {Q : List β → Prop} (hc : ∀ x ∈ xs, (c x).W No fun b => b = q x) (hf : ∀ x ∈ xs, q x = true → (f x).W No fun b => b = g x) (h : Q ((xs.filter q).map g)) : (lcR xs c f).W E Q := by
  rw [lcR_ok (fun x hx => eq_of_W (hc x hx)) (fun x hx e => eq_of_W (hf x hx e))]
  exact h
/-! lists -/
theorem atI_nat {xs : List α} {i : Int} {a : α} (h0 : 0 ≤ i) (h : xs[i.toNat]? = some a) : atI xs i = some a := by
  unfold atI ixN
  have hl : i.toNat < xs.length := (List.getElem?_eq_some_iff.mp h).1
  rw [if_pos h0, if_pos (by omega)]
  exact h
theorem atI_in {xs : List α} {i : Int} (h0 : 0 ≤ i) (h1 : i < xs.length) : ∃ a, atI xs i = some a ∧ a ∈ xs ∧ xs[i.toNat]? = some a := by
  have hl : i.toNat < xs.length := by omega
  exact ⟨xs[i.toNat], atI_nat h0 (List.getElem?_eq_getElem hl), List.getElem_mem hl, List.getElem?_eq_getElem hl⟩
theorem W_at {xs : List α} {i : Int} {Q : α → Prop} (h0 : 0 ≤ i) (h1 : i < xs.length) (h : ∀ a, a ∈ xs → xs[i.toNat]? = some a → Q a) : ∃ a, atI xs i = some a ∧ Q a := by
  obtain ⟨a, e, m, g⟩ := atI_in h0 h1
  exact ⟨a, e, h a m g⟩
/-- both ways of a test go on alike -/
theorem if_join {c : Prop} {d : Decidable c} {A : Prop} {P : α → Prop} (J : α → Prop) (x : α) (hx : ¬ c → J x) (tail : ∀ s, J s → P s) (a : c → (∀ s, J s → P s) → A) : if c then A else P x := by
  by_cases h : c
  · rw [if_pos h]; exact a h tail
  · rw [if_neg h]; exact tail x (hx h)
theorem if_join2 {c : Prop} {d : Decidable c} {A : Prop} {P : α → β → Prop} (J : α → β → Prop) (x : α) (y : β) (hx : ¬ c → J x y) (tail : ∀ s t, J s t → P s t) (a : c → (∀ s t, J s t → P s t) → A) : if c then A else P x y := by
  by_cases h : c
  · rw [if_pos h]; exact a h tail
  · rw [if_neg h]; exact tail x y (hx h)
theorem rng_at {a : Int} {n : Nat} {pre post : List Int} {x : Int} (h : pre ++ x :: post = [] ++ (List.range n).map fun (k : Nat) => a + (k : Int)) : x = a + (pre.length : Int) ∧ pre.length < n := by
  have h1 : ((List.range n).map fun (k : Nat) => a + (k : Int))[pre.length]? = some x := by
    rw [List.nil_append] at h
    rw [← h, List.getElem?_append_right (Nat.le_refl _), Nat.sub_self]
    rfl
  rw [List.getElem?_map] at h1
  have hl : pre.length < n := by
    have h2 := congrArg List.length h
    simp at h2
    omega
  rw [List.getElem?_range hl] at h1
  exact ⟨by simpa using h1.symm, hl⟩
theorem sizeLn_eq : sizeLn = 16777216 := by decide
theorem len_app (a b : Str) : (a ++ b).length = a.length + b.length := Array.size_append
theorem len_one (c : Nat) : (one c).length = 1 := rfl
theorem cut_len {xs : List α} {lo hi : Option Int} : (cut xs lo hi).length ≤ xs.length := by
  unfold cut
  rw [List.length_take, List.length_drop]
  omega
theorem cut_le {xs : List α} {a b : Int} (ha : 0 ≤ a) (hb : 0 ≤ b) : (cut xs (some a) (some b)).length ≤ (b - a).toNat := by
  unfold cut
  rw [List.length_take, List.length_drop]
  unfold sIx
  dsimp only
  rw [if_neg (by omega), if_neg (by omega)]
  omega
theorem len_cut (a : Str) (lo hi : Option Int) : (cutZ a lo hi).length ≤ a.length := by
  show (cut a.cps.toList lo hi).toArray.size ≤ a.cps.size
  rw [List.size_toArray]
  have := cut_len (xs := a.cps.toList) (lo := lo) (hi := hi)
  simpa using this
theorem W_app' {get : S → Option (List α)} {put : S → Option (List α) → S} {f : S → Res α} : (appF get put f s : Out S R).W p = match get s with
    | none => False
    | some xs => (f s).W (fun e => p.ex e s) fun a => xs.length < sizeLn ∧ p.nx (put s (some (xs ++ [a]))) := by
  cases h : get s with
  | none => unfold appF; rw [h]; rfl
  | some xs => exact W_app h
theorem W_retT' {get : S → Option R} {put : S → Option R → S} : (retTF get put s).W p = match get s with
    | none => False
    | some r => p.rt r (put s none) := by unfold retTF; cases get s <;> rfl
/-! dicts -/
section
variable {κ : Type} [DecidableEq κ] {d : Dct κ α} {k : κ}
theorem get_none {kvs : List (κ × α)} (h : k ∉ kvs.map (·.1)) : (⟨kvs⟩ : Dct κ α).get k = none := by
  show getK kvs k = none
  cases e : getK kvs k with
  | none => rfl
  | some a => exact absurd (getK_some.mp (by rw [e]; rfl)) h
theorem put_new {kvs : List (κ × α)} {v : α} (h : k ∉ kvs.map (·.1)) : (⟨kvs⟩ : Dct κ α).put k v = ⟨kvs ++ [(k, v)]⟩ := by
  have e : getK kvs k = none := get_none h
  unfold Dct.put putKv
  rw [e]
  rfl
theorem put_last {kvs : List (κ × α)} {v w : α} (h : k ∉ kvs.map (·.1)) : (⟨kvs ++ [(k, w)]⟩ : Dct κ α).put k v = ⟨kvs ++ [(k, v)]⟩ := by
  have e : (getK (kvs ++ [(k, w)]) k).isSome = true := getK_some.mpr (by simp)
  unfold Dct.put putKv
  dsimp only
  rw [if_pos e]
  unfold repK
  rw [List.map_append]
  have e2 : (kvs.map fun kv => if kv.1 = k then (kv.1, v) else kv) = kvs := by
    refine (List.map_congr_left fun q hq => ?_).trans (List.map_id' kvs)
    rw [if_neg]
    exact fun z => h (by rw [← z]; exact List.mem_map.mpr ⟨q, hq, rfl⟩)
  rw [e2]
  simp
theorem W_dget {Q : α → Prop} : (dgetF d k).W E Q = ∃ v, d.get k = some v ∧ Q v := by
  unfold dgetF
  cases h : d.get k with
  | none => simp [Res.ofO, Res.W]
  | some a => simp [Res.ofO, Res.W]
theorem W_eqK [DecidableEq α] {a b : Dct κ α} {Q : Bool → Prop} : (eqK a b).W E Q = ((a.kvs.length = b.kvs.length ∧ ∀ p ∈ a.kvs, b.get p.1 = some p.2) ∧ Q true) := by unfold eqK; rw [W_chk, decide_eq_true_eq]
theorem W_din {Q : Bool → Prop} : (dinF k d).W E Q = Q (d.get k).isSome := propext Iff.rfl
theorem W_dnin {Q : Bool → Prop} : (dninF k d).W E Q = Q (!(d.get k).isSome) := propext Iff.rfl
theorem W_dlen {Q : Int → Prop} : (dlenF d).W E Q = Q (d.kvs.length : Int) := propext Iff.rfl
theorem W_dkeys {Q : List κ → Prop} : (dkeysF d).W E Q = Q (d.kvs.map (·.1)) := propext Iff.rfl
theorem W_dput' {get : S → Option (Dct κ α)} {put : S → Option (Dct κ α) → S} {fk : S → Res κ} {fv : S → Res α} : (dputF get put fk fv s : Out S R).W p = (fv s).W (fun e => p.ex e s) fun v => match get s with
    | none => False
    | some d => (fk s).W (fun e => p.ex e s) fun k => d.kvs.length < sizeLn ∧ p.nx (put s (some (d.put k v))) := by
  unfold dputF
  cases fv s with
  | ok v =>
    cases get s with
    | none => rfl
    | some d =>
      cases fk s with
      | ok k =>
        show Out.W (if d.kvs.length < sizeLn then .nx (put s (some (d.put k v))) else .stuck) p = _
        by_cases hl : d.kvs.length < sizeLn
        · simp [hl, Out.W, Res.W]
        · simp [hl, Out.W, Res.W]
      | ex e => rfl
      | stuck => rfl
  | ex e => rfl
  | stuck => rfl
theorem W_clear' {get : S → Option (List α)} {put : S → Option (List α) → S} : (clearF get put s : Out S R).W p = match get s with
    | none => False
    | some _ => p.nx (put s (some [])) := by unfold clearF; cases get s <;> rfl
theorem W_lcons {put : S → α → S} {body : S → Out S R} {x : α} {xs : List α} : (loopL put body (x :: xs) s).W p = (body (put s x)).W { p with nx := fun s' => (loopL put body xs s').W p, ct := fun s' => (loopL put body xs s').W p, bk := p.nx } := by
  conv => lhs; unfold loopL
  cases body (put s x) <;> rfl
theorem W_lnil {put : S → α → S} {body : S → Out S R} : (loopL put body [] s).W p = p.nx s := by unfold loopL; rfl
theorem W_dclear' {get : S → Option (Dct κ α)} {put : S → Option (Dct κ α) → S} : (dclearF get put s : Out S R).W p = match get s with
    | none => False
    | some _ => p.nx (put s (some ⟨[]⟩)) := by unfold dclearF; cases get s <;> rfl
end
end
/-- an order that sorts -/
class LeOL (α : Type) [LeO α] : Prop where
  tr : ∀ a b c : α, LeO.le a b = true → LeO.le b c = true → LeO.le a c = true
  to : ∀ a b : α, (LeO.le a b || LeO.le b a) = true
  an : ∀ a b : α, LeO.le a b = true → LeO.le b a = true → a = b
instance : LeOL Int := ⟨fun a b c h k => decide_eq_true (Int.le_trans (of_decide_eq_true h) (of_decide_eq_true k)), fun a b => by
  rcases Int.le_total a b with h | h
  · rw [show LeO.le a b = true from decide_eq_true h]; rfl
  · rw [show LeO.le b a = true from decide_eq_true h, Bool.or_true], fun a b h k => Int.le_antisymm (of_decide_eq_true h) (of_decide_eq_true k)⟩
instance : LeOL Str := ⟨fun a b c h k => decide_eq_true (List.le_trans (of_decide_eq_true h) (of_decide_eq_true k)), fun a b => by
  rcases List.le_total a.cps.toList b.cps.toList with h | h
  · rw [show LeO.le a b = true from decide_eq_true h]; rfl
  · rw [show LeO.le b a = true from decide_eq_true h, Bool.or_true], fun a b h k => by
  have e := List.le_antisymm (of_decide_eq_true h) (of_decide_eq_true k)
  obtain ⟨⟨a⟩⟩ := a
  obtain ⟨⟨b⟩⟩ := b
  have e : a = b := e
  rw [e]⟩
instance {α β : Type} [DecidableEq α] [LeO α] [LeO β] [p : LeOL α] [q : LeOL β] : LeOL (T2 α β) := ⟨fun a b c => by
  show (if a.a = b.a then LeO.le a.b b.b else LeO.le a.a b.a) = true → (if b.a = c.a then LeO.le b.b c.b else LeO.le b.a c.a) = true → (if a.a = c.a then LeO.le a.b c.b else LeO.le a.a c.a) = true
  intro h k
  by_cases e1 : a.a = b.a
  · rw [if_pos e1] at h
    by_cases e2 : b.a = c.a
    · rw [if_pos e2] at k
      rw [if_pos (e1.trans e2)]
      exact q.tr _ _ _ h k
    · rw [if_neg e2] at k
      rw [if_neg (fun e => e2 (e1.symm.trans e)), e1]
      exact k
  · rw [if_neg e1] at h
    by_cases e2 : b.a = c.a
    · rw [if_neg (fun e => e1 (e.trans e2.symm)), ← e2]
      exact h
    · rw [if_neg e2] at k
      have h3 := p.tr _ _ _ h k
      by_cases e3 : a.a = c.a
      · rw [← e3] at k
        exact (e1 (p.an _ _ h k)).elim
      · rw [if_neg e3]
        exact h3, fun a b => by
  show ((if a.a = b.a then LeO.le a.b b.b else LeO.le a.a b.a) || (if b.a = a.a then LeO.le b.b a.b else LeO.le b.a a.a)) = true
  by_cases e : a.a = b.a
  · rw [if_pos e, if_pos e.symm]; exact q.to _ _
  · rw [if_neg e, if_neg (fun z => e z.symm)]; exact p.to _ _, fun a b => by
  show (if a.a = b.a then LeO.le a.b b.b else LeO.le a.a b.a) = true → (if b.a = a.a then LeO.le b.b a.b else LeO.le b.a a.a) = true → a = b
  intro h k
  by_cases e : a.a = b.a
  · rw [if_pos e] at h
    rw [if_pos e.symm] at k
    have := q.an _ _ h k
    obtain ⟨a1, a2⟩ := a
    obtain ⟨b1, b2⟩ := b
    have e : a1 = b1 := e
    have this : a2 = b2 := this
    rw [e, this]
  · rw [if_neg e] at h
    rw [if_neg (fun z => e z.symm)] at k
    exact (e (p.an _ _ h k)).elim⟩
theorem sort_perm {α : Type} [LeO α] [l : LeOL α] {xs ys : List α} (h : xs.Perm ys) : sortL xs = sortL ys := List.Perm.eq_of_pairwise (le := fun a b => LeO.le a b = true) (fun a b _ _ => l.an a b) (List.pairwise_mergeSort l.tr l.to xs) (List.pairwise_mergeSort l.tr l.to ys) (((List.mergeSort_perm xs _).trans h).trans (List.mergeSort_perm ys _).symm)
theorem sort_rev {α : Type} [LeO α] [LeOL α] (xs : List α) : sortL xs.reverse = sortL xs := sort_perm (List.reverse_perm xs)
theorem keysR_ok {α κ : Type} {key : α → Res κ} {g : α → κ} : ∀ {xs : List α}, (∀ x ∈ xs, key x = .ok (g x)) → keysR key xs = .ok (xs.map g)
  | [], _ => rfl
  | x :: xs, h => by
    unfold keysR
    rw [h x List.mem_cons_self, str_ok, bind_ok, keysR_ok fun y hy => h y (List.mem_cons_of_mem _ hy)]
    rfl
theorem sortK_ok {α κ : Type} [LeO κ] {key : α → Res κ} {g : α → κ} {xs : List α} (h : ∀ x ∈ xs, key x = .ok (g x)) : sortK key xs = .ok (xs.mergeSort fun p q => LeO.le (g p) (g q)) := by
  unfold sortK
  rw [keysR_ok h, bind_ok]
  have e : xs.zip (xs.map g) = xs.map fun x => (x, g x) := by
    clear h
    induction xs with
    | nil => rfl
    | cons x xs ih => rw [List.map_cons, List.zip_cons_cons, ih, List.map_cons]
  have k := List.map_mergeSort (r := fun p q => LeO.le (g p) (g q)) (s := fun p q : α × κ => LeO.le p.2 q.2) (f := fun x => (x, g x)) (l := xs) (fun _ _ _ _ => rfl)
  rw [e, ← k, List.map_map]
  congr 1
  exact List.map_id' _
/-- sorted by a key: in its order, and of the same items -/
theorem sortK_pw {α κ : Type} [LeO κ] [l : LeOL κ] (g : α → κ) (xs : List α) : (xs.mergeSort fun p q => LeO.le (g p) (g q)).Pairwise fun p q => LeO.le (g p) (g q) = true := List.pairwise_mergeSort (le := fun p q => LeO.le (g p) (g q)) (fun a b c => l.tr (g a) (g b) (g c)) (fun a b => l.to (g a) (g b)) xs
/-! any data -/
section
open Enc (enc)
class DecL (α : Type) [Enc α] [Dec α] : Prop where
  me : ∀ a : α, Dec.dec (enc a) = some a
instance : DecL Int := ⟨fun _ => rfl⟩
instance : DecL Bool := ⟨fun _ => rfl⟩
instance : DecL Str := ⟨fun _ => rfl⟩
instance : DecL Unit := ⟨fun _ => rfl⟩
instance : DecL D := ⟨fun _ => rfl⟩
theorem decs_map {α : Type} [Enc α] [Dec α] [q : DecL α] : ∀ xs : List α, decs Dec.dec (xs.map enc) = some xs
  | [] => rfl
  | x :: xs => by
    rw [List.map_cons]
    unfold decs
    rw [q.me, decs_map xs]
    rfl
instance {α : Type} [Enc α] [Dec α] [DecL α] : DecL (List α) := ⟨fun xs => decs_map xs⟩
instance {α β : Type} [Enc α] [Enc β] [Dec α] [Dec β] [q : DecL α] [r : DecL β] : DecL (T2 α β) := ⟨fun x => by
  show ((Dec.dec (enc x.a) : Option α).bind fun a => (Dec.dec (enc x.b) : Option β).map fun b => (⟨a, b⟩ : T2 α β)) = _
  rw [q.me, r.me]
  rfl⟩
instance {α β γ : Type} [Enc α] [Enc β] [Enc γ] [Dec α] [Dec β] [Dec γ] [q : DecL α] [r : DecL β] [s : DecL γ] : DecL (T3 α β γ) := ⟨fun x => by
  show ((Dec.dec (enc x.a) : Option α).bind fun a => (Dec.dec (enc x.b) : Option β).bind fun b => (Dec.dec (enc x.c) : Option γ).map fun c => (⟨a, b, c⟩ : T3 α β γ)) = _
  rw [q.me, r.me, s.me]
  rfl⟩
instance {α β γ δ : Type} [Enc α] [Enc β] [Enc γ] [Enc δ] [Dec α] [Dec β] [Dec γ] [Dec δ] [q : DecL α] [r : DecL β] [s : DecL γ] [u : DecL δ] : DecL (T4 α β γ δ) := ⟨fun x => by
  show ((Dec.dec (enc x.a) : Option α).bind fun a => (Dec.dec (enc x.b) : Option β).bind fun b => (Dec.dec (enc x.c) : Option γ).bind fun c => (Dec.dec (enc x.d) : Option δ).map fun d => (⟨a, b, c, d⟩ : T4 α β γ δ)) = _
  rw [q.me, r.me, s.me, u.me]
  rfl⟩
/-- its data are none of None's -/
class NN0 (α : Type) [Enc α] : Prop where
  nn : ∀ a : α, enc a ≠ D.non
instance : NN0 Int := ⟨fun _ h => nomatch h⟩
instance : NN0 Bool := ⟨fun _ h => nomatch h⟩
instance : NN0 Str := ⟨fun _ h => nomatch h⟩
instance {α : Type} [Enc α] : NN0 (List α) := ⟨fun _ h => nomatch h⟩
instance {α β : Type} [Enc α] [Enc β] : NN0 (T2 α β) := ⟨fun _ h => nomatch h⟩
instance {α β γ : Type} [Enc α] [Enc β] [Enc γ] : NN0 (T3 α β γ) := ⟨fun _ h => nomatch h⟩
instance {α β γ δ : Type} [Enc α] [Enc β] [Enc γ] [Enc δ] : NN0 (T4 α β γ δ) := ⟨fun _ h => nomatch h⟩
instance {α : Type} [Enc α] [Dec α] [q : DecL α] [n : NN0 α] : DecL (Option α) := ⟨fun a => by
  cases a with
  | none => rfl
  | some a =>
    show (Dec.dec (enc a) : Option (Option α)) = _
    have h := q.me a
    have k := n.nn a
    revert h k
    generalize (enc a : D) = d
    intro h k
    cases d <;> first | exact absurd rfl k | (show Option.map some _ = _; rw [h]; rfl)⟩
theorem asT_enc {α : Type} [Enc α] [Dec α] [q : DecL α] (a : α) : asT α (enc a) = .ok a := by
  unfold asT
  rw [q.me]
  rfl
class OkE (α : Type) [Enc α] (n : outParam Nat) : Prop where
  ok : ∀ (a : α) (m : Nat), n ≤ m → okD (enc a) m = true
instance : OkE Int 0 := ⟨fun _ _ _ => rfl⟩
instance : OkE Bool 0 := ⟨fun _ _ _ => rfl⟩
instance : OkE Str 0 := ⟨fun _ _ _ => rfl⟩
instance : OkE Unit 0 := ⟨fun _ _ _ => rfl⟩
theorem okDs_map {α : Type} [Enc α] {n m : Nat} [q : OkE α n] (h : n ≤ m) : ∀ xs : List α, okDs (xs.map enc) m = true
  | [] => rfl
  | x :: xs => by
    rw [List.map_cons]
    unfold okDs
    rw [q.ok x m h, okDs_map h xs]
    rfl
theorem okL {xs : List D} {m : Nat} (h : 0 < m) (k : okDs xs (m - 1) = true) : okD (.lst xs) m = true := by
  unfold okD
  rw [decide_eq_true h, k]
  rfl
theorem okTp {xs : List D} {m : Nat} (h : 0 < m) (k : okDs xs (m - 1) = true) : okD (.tup xs) m = true := by
  unfold okD
  rw [decide_eq_true h, k]
  rfl
instance {α : Type} [Enc α] {n : Nat} [q : OkE α n] : OkE (List α) (n + 1) := ⟨fun xs m h => okL (by omega) (okDs_map (by omega) xs)⟩
instance {α : Type} [Enc α] {n : Nat} [q : OkE α n] : OkE (Option α) n := ⟨fun a m h => by
  cases a with
  | none => rfl
  | some a => exact q.ok a m h⟩
instance {α β : Type} [Enc α] [Enc β] {n m : Nat} [q : OkE α n] [r : OkE β m] : OkE (T2 α β) (max n m + 1) := ⟨fun x k h => okTp (by omega) (by
  show (okD (enc x.a) (k - 1) && (okD (enc x.b) (k - 1) && true)) = true
  rw [q.ok _ _ (by omega), r.ok _ _ (by omega)]
  rfl)⟩
instance {α β γ : Type} [Enc α] [Enc β] [Enc γ] {n m o : Nat} [q : OkE α n] [r : OkE β m] [s : OkE γ o] : OkE (T3 α β γ) (max n (max m o) + 1) := ⟨fun x k h => okTp (by omega) (by
  show (okD (enc x.a) (k - 1) && (okD (enc x.b) (k - 1) && (okD (enc x.c) (k - 1) && true))) = true
  rw [q.ok _ _ (by omega), r.ok _ _ (by omega), s.ok _ _ (by omega)]
  rfl)⟩
instance {α β γ δ : Type} [Enc α] [Enc β] [Enc γ] [Enc δ] {n m o p : Nat} [q : OkE α n] [r : OkE β m] [s : OkE γ o] [u : OkE δ p] : OkE (T4 α β γ δ) (max n (max m (max o p)) + 1) := ⟨fun x k h => okTp (by omega) (by
  show (okD (enc x.a) (k - 1) && (okD (enc x.b) (k - 1) && (okD (enc x.c) (k - 1) && (okD (enc x.d) (k - 1) && true)))) = true
  rw [q.ok _ _ (by omega), r.ok _ _ (by omega), s.ok _ _ (by omega), u.ok _ _ (by omega)]
  rfl)⟩
theorem okD_enc {α : Type} [Enc α] {n : Nat} [q : OkE α n] (a : α) (h : n ≤ 30 := by decide) : okD (enc a) 30 = true := q.ok a 30 h
theorem okD_L (xs : List D) (n : Nat) : okD (enc xs) (n + 1) = okDs xs n := by
  show (decide (0 < n + 1) && okDs (xs.map id) n) = _
  rw [List.map_id]
  simp
mutual
theorem eqvD_self : ∀ (d : D) (n : Nat), okD d n = true → eqvD d d = true
  | .non, _, _ => rfl
  | .bl b, _, _ => by show (b == b) = true; simp
  | .int b, _, _ => by show (b == b) = true; simp
  | .str b, _, _ => by show (b == b) = true; simp
  | .lst xs, n, k => by
    unfold okD at k
    rw [Bool.and_eq_true] at k
    exact eqvDs_self xs _ k.2
  | .tup xs, n, k => by
    unfold okD at k
    rw [Bool.and_eq_true] at k
    exact eqvDs_self xs _ k.2
  | .scr xs, n, k => by cases k
  | .dic _ _, _, k => by cases k
  | .dit _ _, _, k => by cases k
  | .hnd _, _, k => by cases k
  | .adr _, _, k => by cases k
  | .exo _ _ _, _, k => by cases k
  | .gl _, _, k => by cases k
  | .ty _, _, k => by cases k
  | .obj _ _ _, _, k => by cases k
theorem eqvDs_self : ∀ (ds : List D) (n : Nat), okDs ds n = true → eqvDs ds ds = true
  | [], _, _ => rfl
  | d :: ds, n, k => by
    unfold okDs at k
    rw [Bool.and_eq_true] at k
    show (eqvD d d && eqvDs ds ds) = true
    rw [eqvD_self d n k.1, eqvDs_self ds n k.2]
    rfl
end
/-- typed data are equal as data just where they are -/
class EqP (α : Type) [DecidableEq α] [Enc α] : Prop where
  eq : ∀ a b : α, eqvD (enc a) (enc b) = decide (a = b)
instance : EqP Int := ⟨fun a b => by show (a == b) = _; exact Bool.beq_eq_decide_eq a b⟩
instance : EqP Bool := ⟨fun a b => by show (a == b) = _; exact Bool.beq_eq_decide_eq a b⟩
instance : EqP Str := ⟨fun a b => by show (a == b) = _; exact Bool.beq_eq_decide_eq a b⟩
theorem eqvDs_map {α : Type} [DecidableEq α] [Enc α] [q : EqP α] : ∀ xs ys : List α, eqvDs (xs.map enc) (ys.map enc) = decide (xs = ys)
  | [], [] => rfl
  | [], y :: ys => by simp [eqvDs]
  | x :: xs, [] => by simp [eqvDs]
  | x :: xs, y :: ys => by
    simp only [List.map_cons, eqvDs, q.eq x y, eqvDs_map xs ys]
    rw [← Bool.decide_and]
    exact decide_eq_decide.mpr (by simp)
instance {α : Type} [DecidableEq α] [Enc α] [q : EqP α] : EqP (List α) := ⟨fun a b => eqvDs_map a b⟩
instance {α β : Type} [DecidableEq α] [DecidableEq β] [Enc α] [Enc β] [q : EqP α] [r : EqP β] : EqP (T2 α β) := ⟨fun x y => by
  show (eqvD (enc x.a) (enc y.a) && (eqvD (enc x.b) (enc y.b) && true)) = _
  obtain ⟨a, b⟩ := x
  obtain ⟨c, d⟩ := y
  rw [q.eq, r.eq, Bool.and_true, ← Bool.decide_and]
  exact decide_eq_decide.mpr (by simp)⟩
variable {E : Exn → Prop}
theorem W_eqD {a b : D} {Q : Bool → Prop} : (eqD a b).W E Q = (((okD a 30 && okD b 30) = true) ∧ Q (eqvD a b)) := W_chk
theorem W_neD {a b : D} {Q : Bool → Prop} : (neD a b).W E Q = (((okD a 30 && okD b 30) = true) ∧ Q (!eqvD a b)) := W_chk
theorem W_inD {a : D} {b : List D} {Q : Bool → Prop} : (inD a b).W E Q = (((okD a 30 && okDs b 30) = true) ∧ Q (b.any fun x => eqvD x a)) := W_chk
theorem W_ninD {a : D} {b : List D} {Q : Bool → Prop} : (ninD a b).W E Q = (((okD a 30 && okDs b 30) = true) ∧ Q (!b.any fun x => eqvD x a)) := W_chk
end
/-! ### what may write -/
section
variable {S R α β γ ω : Type}
def OutX.W (o : OutX S α) (E : Exn → S → Prop) (Q : α → S → Prop) : Prop := match o with
  | .ok a s => Q a s
  | .ex e s => E e s
  | .stuck => False
abbrev NoX2 : Exn → S → Prop := fun _ _ => False
variable {s : S} {p : Po S R} {E : Exn → S → Prop} {Q : α → S → Prop}
theorem ok_of_X {o : OutX S α} (h : o.W NoX2 Q) : ∃ a t, o = .ok a t ∧ Q a t := by
  cases o with
  | ok a t => exact ⟨a, t, rfl, h⟩
  | ex e t => exact h.elim
  | stuck => exact h.elim
theorem OutX.W.to {o : OutX S α} {Q2 : α → S → Prop} (h : o.W NoX2 Q) (a : ∀ x t, Q x t → Q2 x t) : o.W E Q2 := by
  cases o with
  | ok x t => exact a x t h
  | ex e t => exact h.elim
  | stuck => exact h.elim
theorem X_ok {a : α} : (OutX.ok a s).W E Q = Q a s := propext Iff.rfl
theorem X_ex {e : Exn} : (OutX.ex e s : OutX S α).W E Q = E e s := propext Iff.rfl
theorem X_liftX {f : S → Res α} : (liftX f s).W E Q = (f s).W (fun e => E e s) (fun a => Q a s) := by unfold liftX liftR; cases f s <;> rfl
theorem X_liftR {r : Res α} : (liftR r s).W E Q = r.W (fun e => E e s) (fun a => Q a s) := by unfold liftR; cases r <;> rfl
theorem X_bind {o : OutX S α} {k : α → S → OutX S β} {Q : β → S → Prop} : (o.bind k).W E Q = o.W E fun a t => (k a t).W E Q := by cases o <;> rfl
theorem X_xop1 {g : α → Res β} {f : S → OutX S α} {Q : β → S → Prop} : (xop1 g f s).W E Q = (f s).W E fun a t => (g a).W (fun e => E e t) fun b => Q b t := by
  unfold xop1; rw [X_bind]; congr; funext a t; exact X_liftR
theorem X_xop2 {g : α → β → Res γ} {f : S → OutX S α} {h : S → OutX S β} {Q : γ → S → Prop} : (xop2 g f h s).W E Q = (f s).W E fun a t => (h t).W E fun b t2 => (g a b).W (fun e => E e t2) fun c => Q c t2 := by
  unfold xop2; rw [X_bind]; congr; funext a t; rw [X_bind]; congr; funext b t2; exact X_liftR
theorem X_xite {c : S → OutX S Bool} {f g : S → OutX S α} : (xite c f g s).W E Q = (c s).W E fun x t => if x = true then (f t).W E Q else (g t).W E Q := by unfold xite; rw [X_bind]; congr; funext x t; cases x <;> rfl
theorem X_xand {c d : S → OutX S Bool} {Q : Bool → S → Prop} : (xand c d s).W E Q = (c s).W E fun x t => if x = true then (d t).W E Q else Q false t := by unfold xand; rw [X_bind]; congr; funext x t; cases x <;> rfl
theorem X_xor {c d : S → OutX S Bool} {Q : Bool → S → Prop} : (xor_ c d s).W E Q = (c s).W E fun x t => if x = true then Q true t else (d t).W E Q := by unfold xor_; rw [X_bind]; congr; funext x t; cases x <;> rfl
theorem X_xnot {c : S → OutX S Bool} {Q : Bool → S → Prop} : (xnot c s).W E Q = (c s).W E fun x t => Q (!x) t := by unfold xnot; rw [X_bind]; rfl
theorem W_asgX {f : S → OutX S α} {put : S → α → S} : (asgX f put s : Out S R).W p = (f s).W p.ex fun a t => ∀ v, v = a → p.nx (put t v) := by
  unfold asgX andX
  cases f s with
  | ok a t => exact propext ⟨fun h v e => e ▸ h, fun h => h a rfl⟩
  | ex e t => rfl
  | stuck => rfl
theorem W_dropX {f : S → OutX S α} : (dropX f s : Out S R).W p = (f s).W p.ex fun _ t => p.nx t := by unfold dropX andX; cases f s <;> rfl
theorem W_retX {f : S → OutX S R} : (retX f s).W p = (f s).W p.ex p.rt := by unfold retX andX; cases f s <;> rfl
theorem W_ifX {c : S → OutX S Bool} {a b : S → Out S R} : (ifX c a b s).W p = (c s).W p.ex fun x t => if x = true then (a t).W p else (b t).W p := by
  unfold ifX andX
  cases c s with
  | ok x t => cases x <;> rfl
  | ex e t => rfl
  | stuck => rfl
theorem W_forX {f : S → OutX S (List α)} {put : S → α → S} {body : S → Out S R} : (forX f put body s).W p = (f s).W p.ex fun xs t => (loopL put body xs t).W p := by unfold forX andX; cases f s <;> rfl
theorem X_endX {gw : S → ω} {o : Out S R} {E : Exn → ω → Prop} {Q : R → ω → Prop} : (endX gw o).W E Q = o.W ⟨fun _ => False, fun r t => Q r (gw t), fun _ => False, fun _ => False, fun e t => E e (gw t)⟩ := by cases o <;> rfl
theorem X_endXU {gw : S → ω} {o : Out S Unit} {E : Exn → ω → Prop} {Q : Unit → ω → Prop} : (endXU gw o).W E Q = o.W ⟨fun t => Q () (gw t), fun r t => Q r (gw t), fun _ => False, fun _ => False, fun e t => E e (gw t)⟩ := by cases o <;> rfl
theorem X_back {pw : S → ω → S} {o : OutX ω β} {Q : β → S → Prop} : (o.back pw s).W E Q = o.W (fun e w => E e (pw s w)) fun b w => Q b (pw s w) := by cases o <;> rfl
theorem X_call {gw : S → ω} {pw : S → ω → S} {F : α → ω → OutX ω β} {g : S → OutX S α} {Q : β → S → Prop} : (callX gw pw F g s).W E Q = (g s).W E fun a t => (F a (gw t)).W (fun e w => E e (pw t w)) fun b w => Q b (pw t w) := by unfold callX; rw [X_bind]; congr; funext a t; exact X_back
theorem X_new {gw : S → List ω} {pw : S → List ω → S} {mk : ω} {F : Hn × α → List ω → OutX (List ω) Unit} {g : S → OutX S α} {Q : Hn → S → Prop} : (newX gw pw mk F g s).W E Q = (g s).W E fun a t => (F (⟨(gw t).length⟩, a) (gw t ++ [mk])).W (fun e w => E e (pw t w)) fun _ w => Q ⟨(gw t).length⟩ (pw t w) := by
  unfold newX; rw [X_bind]; congr; funext a t; cases F (⟨(gw t).length⟩, a) (gw t ++ [mk]) <;> rfl
theorem X_meth [Wd ω] {gw : S → List ω} {pw : S → List ω → S} {rows : List (Str × (Hn × α → List ω → OutX (List ω) β))} {fo : S → OutX S Hn} {ga : S → OutX S α} {Q : β → S → Prop} : (methX gw pw rows fo ga s).W E Q = (fo s).W E fun h t => ∃ F, rowOf rows (gw t) h = some F ∧ (ga t).W E fun a t2 => (F (h, a) (gw t2)).W (fun e w => E e (pw t2 w)) fun b w => Q b (pw t2 w) := by
  unfold methX; rw [X_bind]; congr; funext h t
  cases rowOf rows (gw t) h with
  | none => exact propext ⟨fun z => z.elim, fun ⟨_, z, _⟩ => nomatch z⟩
  | some F => exact propext ⟨fun z => ⟨F, rfl, by rw [X_call] at z; exact z⟩, fun ⟨_, e, z⟩ => by cases e; rw [X_call]; exact z⟩
theorem W_methR [Wd ω] {E : Exn → Prop} {gw : S → List ω} {rows : List (Str × (Hn × α → List ω → Res β))} {fo : S → Res Hn} {ga : S → Res α} {Q : β → Prop} : (methR gw rows fo ga s).W E Q = (fo s).W E fun h => ∃ F, rowOf rows (gw s) h = some F ∧ (ga s).W E fun a => (F (h, a) (gw s)).W E Q := by
  unfold methR; rw [W_bind]; congr; funext h
  cases rowOf rows (gw s) h with
  | none => exact propext ⟨fun z => z.elim, fun ⟨_, z, _⟩ => nomatch z⟩
  | some F => exact propext ⟨fun z => ⟨F, rfl, by rw [W_bind] at z; exact z⟩, fun ⟨_, e, z⟩ => by cases e; rw [W_bind]; exact z⟩
theorem W_isW [Wd ω] {E : Exn → Prop} {gw : S → List ω} {rows : List (Str × Bool)} {fo : S → Res Hn} {Q : Bool → Prop} : (isW gw rows fo s).W E Q = (fo s).W E fun h => ∃ b, rowOf rows (gw s) h = some b ∧ Q b := by
  unfold isW; rw [W_bind]; congr; funext h
  cases rowOf rows (gw s) h with
  | none => exact propext ⟨fun z => z.elim, fun ⟨_, z, _⟩ => nomatch z⟩
  | some F => exact propext ⟨fun z => ⟨F, rfl, z⟩, fun ⟨_, e, z⟩ => by cases e; exact z⟩
theorem W_fldF {E : Exn → Prop} {gw : S → List ω} {get : ω → Option α} {fo : S → Res Hn} {Q : α → Prop} : (fldF gw get fo s).W E Q = (fo s).W E fun h => ∃ a, (gw s)[h.i]?.bind get = some a ∧ Q a := by
  unfold fldF; rw [W_bind]; congr; funext h
  cases (gw s)[h.i]?.bind get with
  | none => exact propext ⟨fun z => z.elim, fun ⟨_, z, _⟩ => nomatch z⟩
  | some a => exact propext ⟨fun z => ⟨a, rfl, z⟩, fun ⟨_, e, z⟩ => by cases e; exact z⟩
theorem W_stoF {gw : S → List ω} {pw : S → List ω → S} {set : ω → α → Option ω} {fo : S → Res Hn} {fe : S → OutX S α} : (stoF gw pw set fo fe s : Out S R).W p = (fe s).W p.ex fun a t => (fo t).W (fun e => p.ex e t) fun h => ∃ o, ((gw t)[h.i]?.bind fun o => set o a) = some o ∧ p.nx (pw t ((gw t).set h.i o)) := by
  unfold stoF andX
  cases fe s with
  | stuck => rfl
  | ex e t => rfl
  | ok a t =>
    rw [X_ok]
    dsimp only
    cases fo t with
    | stuck => rfl
    | ex e => rfl
    | ok h =>
      dsimp only
      cases hh : ((gw t)[h.i]?.bind fun o => set o a) with
      | none => simp [Out.W, Res.W, OutX.W, hh]
      | some o => simp [Out.W, Res.W, OutX.W, hh]
theorem X_mut {γ δ : Type} {get : S → Res γ} {set : S → γ → S} {ga : S → Res β} {F : γ → β → Res (δ × γ)} {Q : δ → S → Prop} : (mutX get set ga F s).W E Q = (get s).W (fun e => E e s) fun c => (ga s).W (fun e => E e s) fun b => (F c b).W (fun e => E e s) fun r => Q r.1 (set s r.2) := by
  unfold mutX
  cases get s with
  | stuck => rfl
  | ex e => rfl
  | ok c =>
    dsimp only
    cases ga s with
    | stuck => rfl
    | ex e => rfl
    | ok b =>
      dsimp only
      cases h : F c b <;> simp only [W_ok, W_ex, Res.W, h] <;> rfl
end
section
variable {S R α β γ κ : Type} [DecidableEq κ] {s : S} {p : Po S R}
theorem W_lInsert {E : Exn → Prop} {xs : List α} {a : Int × α × Unit} {Q : Unit × List α → Prop} : (lInsert xs a).W E Q = ((xs.length < sizeLn ∧ 0 ≤ a.1 ∧ a.1 < 2 ^ 63) ∧ Q ((), xs.take a.1.toNat ++ [a.2.1] ++ xs.drop a.1.toNat)) := by unfold lInsert; rw [W_chk, decide_eq_true_eq]
theorem W_lAppend {E : Exn → Prop} {xs : List α} {a : α × Unit} {Q : Unit × List α → Prop} : (lAppend xs a).W E Q = (xs.length < sizeLn ∧ Q ((), xs ++ [a.1])) := by unfold lAppend; rw [W_chk, decide_eq_true_eq]
theorem W_lExtend {E : Exn → Prop} {xs : List α} {a : List α × Unit} {Q : Unit × List α → Prop} : (lExtend xs a).W E Q = (xs.length + a.1.length ≤ sizeLn ∧ Q ((), xs ++ a.1)) := by unfold lExtend; rw [W_chk, decide_eq_true_eq]
theorem W_ofOe {E : Exn → Prop} {o : Option α} {Q : α → Prop} : (Res.ofO o).W E Q = ∃ a, o = some a ∧ Q a := by
  cases o with
  | none => exact propext ⟨fun z => z.elim, fun ⟨_, z, _⟩ => nomatch z⟩
  | some a => exact propext ⟨fun z => ⟨a, rfl, z⟩, fun ⟨_, e, z⟩ => by cases e; exact z⟩
theorem W_lPopAt {E : Exn → Prop} {xs : List α} {a : Int × Unit} {Q : α × List α → Prop} : (lPopAt xs a).W E Q = ((-(2 ^ 63) ≤ a.1 ∧ a.1 < 2 ^ 63) ∧ ∃ k, ixN xs.length a.1 = some k ∧ ∃ x, xs[k]? = some x ∧ Q (x, xs.eraseIdx k)) := by
  unfold lPopAt
  rw [W_bind, W_chk, decide_eq_true_eq, W_bind, W_ofOe]
  congr; funext k; rw [W_bind, W_ofOe]; rfl
theorem W_lPop {E : Exn → Prop} {xs : List α} {u : Unit} {Q : α × List α → Prop} : (lPop xs u).W E Q = ∃ x, xs[xs.length - 1]? = some x ∧ Q (x, xs.dropLast) := by unfold lPop; rw [W_bind, W_ofOe]; rfl
theorem W_dPop {E : Exn → Prop} {d : Dct κ α} {a : κ × Unit} {Q : α × Dct κ α → Prop} : (dPop d a).W E Q = ∃ x, d.get a.1 = some x ∧ Q (x, d.drop a.1) := by unfold dPop; rw [W_bind, W_ofOe]; rfl
theorem W_dgetO {E : Exn → Prop} {d : Dct κ α} {k : κ} {Q : Option α → Prop} : (dgetO d k).W E Q = Q (d.get k) := propext Iff.rfl
theorem W_ltIS {E : Exn → Prop} {a b : T2 Int Str} {Q : Bool → Prop} : (ltIS a b).W E Q = Q (if a.a = b.a then decide (a.b.cps.toList < b.b.cps.toList) else decide (a.a < b.a)) := propext Iff.rfl
theorem W_isNU {E : Exn → Prop} {a b : Unit} {Q : Bool → Prop} : (isNU a b).W E Q = Q true := propext Iff.rfl
theorem W_notNU {E : Exn → Prop} {a b : Unit} {Q : Bool → Prop} : (notNU a b).W E Q = Q false := propext Iff.rfl
theorem W_dputX {get : S → Res (Dct κ α)} {set : S → Dct κ α → S} {fk : S → Res κ} {fv : S → OutX S α} : (dputX get set fk fv s : Out S R).W p = (fv s).W p.ex fun v t => (get t).W (fun e => p.ex e t) fun d => (fk t).W (fun e => p.ex e t) fun k => d.kvs.length < sizeLn ∧ p.nx (set t (d.put k v)) := by
  unfold dputX andX
  cases fv s with
  | stuck => rfl
  | ex e t => rfl
  | ok v t =>
    rw [X_ok]
    dsimp only
    cases get t with
    | stuck => rfl
    | ex e => rfl
    | ok d =>
      rw [W_ok]
      dsimp only
      cases fk t with
      | stuck => rfl
      | ex e => rfl
      | ok k =>
        rw [W_ok]
        dsimp only
        by_cases h : d.kvs.length < sizeLn
        · rw [if_pos h]; exact propext ⟨fun z => ⟨h, z⟩, fun z => z.2⟩
        · rw [if_neg h]; exact propext ⟨fun z => z.elim, fun z => h z.1⟩
theorem W_lputX {get : S → Res (List α)} {set : S → List α → S} {fi : S → Res Int} {fv : S → OutX S α} : (lputX get set fi fv s : Out S R).W p = (fv s).W p.ex fun v t => (get t).W (fun e => p.ex e t) fun xs => (fi t).W (fun e => p.ex e t) fun i => ∃ j, ixN xs.length i = some j ∧ p.nx (set t (xs.set j v)) := by
  unfold lputX andX
  cases fv s with
  | stuck => rfl
  | ex e t => rfl
  | ok v t =>
    rw [X_ok]
    dsimp only
    cases get t with
    | stuck => rfl
    | ex e => rfl
    | ok xs =>
      rw [W_ok]
      dsimp only
      cases fi t with
      | stuck => rfl
      | ex e => rfl
      | ok i =>
        rw [W_ok]
        dsimp only
        cases ixN xs.length i with
        | none => exact propext ⟨fun z => z.elim, fun ⟨_, z, _⟩ => nomatch z⟩
        | some j => exact propext ⟨fun z => ⟨j, rfl, z⟩, fun ⟨_, e, z⟩ => by cases e; exact z⟩
theorem W_raise {f : S → Res Exn} : (raiseS f s : Out S R).W p = (f s).W (fun e => p.ex e s) fun e => p.ex e s := by unfold raiseS; cases f s <;> rfl
theorem W_forT {get : S → Option (List α)} {q : S → Option (List α) → S} {put : Option Unit × S → α → Option Unit × S} {body : Option Unit × S → Out (Option Unit × S) R} {xs : List α} (h : get s = some xs) : (forT get q put body s).W p = (loopL put body xs (some (), q s none)).W ⟨fun t => t.1 = some () ∧ get t.2 = none ∧ p.nx (q t.2 (some xs)), fun r t => p.rt r t.2, fun _ => False, fun _ => False, fun e t => p.ex e t.2⟩ := by
  unfold forT
  rw [h]
  dsimp only
  cases loopL put body xs (some (), q s none) with
  | nx t =>
    obtain ⟨u, t⟩ := t
    cases u with
    | none => exact propext ⟨fun z => z.elim, fun z => nomatch z.1⟩
    | some u =>
      dsimp only
      cases hg : get t with
      | none => exact propext ⟨fun z => ⟨rfl, hg, z⟩, fun z => z.2.2⟩
      | some _ => exact propext ⟨fun z => z.elim, fun z => by have := z.2.1; rw [hg] at this; cases this⟩
  | rt r t => rfl
  | bk t => rfl
  | ct t => rfl
  | ex e t => rfl
  | stuck => rfl
end
section
variable {S R : Type} {s : S} {p : Po S R}
theorem W_try {body : S → Out S R} {hs : List (Hdl S R)} : (tryS body hs s).W p = (body s).W { p with ex := fun e t => (tryGo hs e t).W p } := by unfold tryS; cases body s <;> rfl
theorem W_tryGo {h : Hdl S R} {r : List (Hdl S R)} {e : Exn} : (tryGo (h :: r) e s).W p = match h.test.lookup e.cls with
    | some true => (h.suite e s).W p
    | some false => (tryGo r e s).W p
    | none => False := by
  conv => lhs; unfold tryGo
  cases h.test.lookup e.cls with
  | none => rfl
  | some b => cases b <;> rfl
theorem W_asSu {G : Exn → Option Unit × S → Out (Option Unit × S) R} {e : Exn} : (asSu G e s).W p = (G e (some (), s)).W { nx := fun t => p.nx t.2, rt := fun r t => p.rt r t.2, bk := fun t => p.bk t.2, ct := fun t => p.ct t.2, ex := fun x t => p.ex x t.2 } := by unfold asSu; cases G e (some (), s) <;> rfl
theorem W_isX {E : Exn → Prop} {rows : List (Str × Bool)} {e : Exn} {Q : Bool → Prop} : (isX rows e).W E Q = ∃ b, rows.lookup e.cls = some b ∧ Q b := W_ofOe
theorem W_nameX {E : Exn → Prop} {cs : List Str} {e : Exn} {Q : Str → Prop} : (nameX cs e).W E Q = ∃ n, (if e.cls ∈ cs then e.arg else none) = some n ∧ Q n := W_ofOe
theorem W_startsT {E : Exn → Prop} {a b : Str} {Q : Bool → Prop} : (startsT a b).W E Q = Q (startsB a b) := propext Iff.rfl
theorem W_strI {E : Exn → Prop} {i : Int} {Q : Str → Prop} : (strI i).W E Q = (i.natAbs.log2 < 1920 ∧ Q (Str.ofString (toString i))) := by unfold strI; rw [W_chk, decide_eq_true_eq]
theorem W_andI {E : Exn → Prop} {a b : Int} {Q : Int → Prop} : (andI a b).W E Q = ((0 ≤ a ∧ 0 ≤ b) ∧ Q ((a.toNat &&& b.toNat : Nat) : Int)) := by unfold andI; rw [W_chk, decide_eq_true_eq]
theorem W_orI {E : Exn → Prop} {a b : Int} {Q : Int → Prop} : (orI a b).W E Q = ((0 ≤ a ∧ 0 ≤ b) ∧ Q ((a.toNat ||| b.toNat : Nat) : Int)) := by unfold orI; rw [W_chk, decide_eq_true_eq]
theorem W_xorI {E : Exn → Prop} {a b : Int} {Q : Int → Prop} : (xorI a b).W E Q = ((0 ≤ a ∧ 0 ≤ b) ∧ Q ((a.toNat ^^^ b.toNat : Nat) : Int)) := by unfold xorI; rw [W_chk, decide_eq_true_eq]
theorem W_shlI {E : Exn → Prop} {a b : Int} {Q : Int → Prop} : (shlI a b).W E Q = ((0 ≤ b ∧ b ≤ 1000 ∧ a.natAbs < 2 ^ 1000) ∧ Q (a * 2 ^ b.toNat)) := by unfold shlI; rw [W_chk, decide_eq_true_eq]
theorem W_dmodI {E : Exn → Prop} {a b : Int} {Q : T2 Int Int → Prop} : (dmodI a b).W E Q = ((0 < b ∧ b < 1073741824) ∧ Q ⟨a / b, a % b⟩) := by unfold dmodI; rw [W_chk, decide_eq_true_eq]
theorem W_bitsI {E : Exn → Prop} {a : Int} {Q : Int → Prop} : (bitsI a).W E Q = Q ((if a = 0 then 0 else a.natAbs.log2 + 1 : Nat) : Int) := propext Iff.rfl
theorem X_box {S ω α : Type} {E : Exn → S → Prop} {s : S} {gw : S → List ω} {pw : S → List ω → S} {mk : α → ω} {f : S → OutX S α} {Q : Hn → S → Prop} : (boxX gw pw mk f s).W E Q = (f s).W E fun a t => Q ⟨(gw t).length⟩ (pw t (gw t ++ [mk a])) := by
  unfold boxX; rw [X_bind]; rfl
end
end M

set_option linter.all false
set_option maxRecDepth 100000
namespace M
inductive Wo where
  | Groups (x0 : Option (Dct PySem.Str (Option PySem.Str))) (x1 : Option (Dct PySem.Str Bool))
instance : Wd Wo := ⟨fun o => match o with
  | .Groups x0 x1 => .obj "Groups" [("uppers", x0.map Enc.enc), ("marks", x1.map Enc.enc)]
⟩
def Wo.get_uppers : Wo → Option (Dct PySem.Str (Option PySem.Str))
  | .Groups x0 x1 => x0
def Wo.set_uppers : Wo → (Dct PySem.Str (Option PySem.Str)) → Option Wo
  | .Groups x0 x1, v => if (x0.isSome || (true && x1.isNone)) = true then some (.Groups (some v) x1) else none
def Wo.put_uppers : Wo → (Dct PySem.Str (Option PySem.Str)) → Wo
  | .Groups x0 x1, v => .Groups (some v) x1
def Wo.get_marks : Wo → Option (Dct PySem.Str Bool)
  | .Groups x0 x1 => x1
def Wo.set_marks : Wo → (Dct PySem.Str Bool) → Option Wo
  | .Groups x0 x1, v => if (x1.isSome || (true)) = true then some (.Groups x0 (some v)) else none
def Wo.put_marks : Wo → (Dct PySem.Str Bool) → Wo
  | .Groups x0 x1, v => .Groups x0 (some v)
abbrev T_cell_at : Type := Option Scr × Option Int × Unit
abbrev A_cell_at : Type := Scr × Int × Unit
def F_cell_at : T_cell_at → Out T_cell_at Int :=
  (seqS (ifS (op2 ltI (fun t => .ofO t.2.1) (op1 (fun x => lenL x.1.ns) (op2 (fun a b => .ok (a, b)) (fun t => .ofO t.1) (fun _ => .ok ()))))
  (retS (op2 (fun a b => idxL a.ns b) (fun t => .ofO t.1) (fun t => .ofO t.2.1)))
  skipS)
  (retS (fun _ => .ok (0 : Int))))
def cell_at : A_cell_at → Res Int := fun a => endF (F_cell_at (some a.1, (some a.2.1, ())))
abbrev T_Groups_init : Type := Option Hn × List Wo
abbrev gw_Groups_init : T_Groups_init → List Wo := fun t => t.2
abbrev pw_Groups_init : T_Groups_init → List Wo → T_Groups_init := fun t w => (t.1, w)
abbrev A_Groups_init : Type := Hn × Unit
def F_Groups_init : T_Groups_init → Out T_Groups_init Unit :=
  (seqS (stoF gw_Groups_init pw_Groups_init Wo.set_uppers (fun t => .ofO t.1) (liftX (fun _ => .ok (⟨[]⟩ : (Dct PySem.Str (Option PySem.Str))))))
  (stoF gw_Groups_init pw_Groups_init Wo.set_marks (fun t => .ofO t.1) (liftX (fun _ => .ok (⟨[]⟩ : (Dct PySem.Str Bool))))))
def Groups_init : A_Groups_init → List Wo → OutX (List Wo) Unit := fun a w => endXU gw_Groups_init (F_Groups_init (some a.1, w))
abbrev T_named : Type := Option (List PySem.Str) × Option Int × Unit
abbrev A_named : Type := (List PySem.Str) × Int × Unit
def F_named : T_named → Out T_named PySem.Str :=
  (seqS (ifS (op2 (eqA (α := Int)) (op2 modI (fun t => .ofO t.2.1) (fun _ => .ok (4 : Int))) (fun _ => .ok (0 : Int)))
  (retS (op2 idxL (fun t => .ofO t.1) (op1 negI (fun _ => .ok (1 : Int)))))
  skipS)
  (retS (op2 idxL (fun t => .ofO t.1) (op2 modI (op2 divI (fun t => .ofO t.2.1) (fun _ => .ok (4 : Int))) (op1 (fun x => lenL x.1) (op2 (fun a b => .ok (a, b)) (fun t => .ofO t.1) (fun _ => .ok ())))))))
def named : A_named → Res PySem.Str := fun a => endF (F_named (some a.1, (some a.2.1, ())))
abbrev T_Groups_sure : Type := Option Hn × Option PySem.Str × List Wo
abbrev gw_Groups_sure : T_Groups_sure → List Wo := fun t => t.2.2
abbrev pw_Groups_sure : T_Groups_sure → List Wo → T_Groups_sure := fun t w => (t.1, (t.2.1, w))
abbrev A_Groups_sure : Type := Hn × PySem.Str × Unit
def F_Groups_sure : T_Groups_sure → Out T_Groups_sure Unit :=
  (ifS (op2 dninF (fun t => .ofO t.2.1) (fldF gw_Groups_sure Wo.get_uppers (fun t => .ofO t.1)))
  (raiseS (op1 (fun s => .ok ⟨"NoGroup", some s⟩) (fun t => .ofO t.2.1)))
  skipS)
def Groups_sure : A_Groups_sure → List Wo → Res Unit := fun a w => endU (F_Groups_sure (some a.1, (some a.2.1, w)))
abbrev T_Groups_chain : Type := Option Hn × Option PySem.Str × Option (List PySem.Str) × Option (List PySem.Str) × List Wo
abbrev gw_Groups_chain : T_Groups_chain → List Wo := fun t => t.2.2.2.2
abbrev pw_Groups_chain : T_Groups_chain → List Wo → T_Groups_chain := fun t w => (t.1, (t.2.1, (t.2.2.1, (t.2.2.2.1, w))))
abbrev A_Groups_chain : Type := Hn × PySem.Str × Unit
noncomputable def F_Groups_chain : T_Groups_chain → Out T_Groups_chain (List PySem.Str) :=
  (seqS (dropS (methR gw_Groups_chain [("Groups", Groups_sure)] (fun t => .ofO t.1) (op2 (fun a b => .ok (a, b)) (fun t => .ofO t.2.1) (fun _ => .ok ()))))
  (seqS (asgS (op1 (fun b => .ok ((fun b => ([b.1] : List PySem.Str)) b)) (op2 (fun a b => .ok (a, b)) (fun t => .ofO t.2.1) (fun _ => .ok ()))) (fun t a => (t.1, (t.2.1, (some a, (none, t.2.2.2.2))))))
  (seqS (whileS (op2 notNo (op2 dgetF (fldF gw_Groups_chain Wo.get_uppers (fun t => .ofO t.1)) (op2 idxL (fun t => .ofO t.2.2.1) (op1 negI (fun _ => .ok (1 : Int))))) (fun _ => .ok ()))
  (appF (fun t => t.2.2.1) (fun t a => (t.1, (t.2.1, (a, t.2.2.2)))) (op1 (fun o => .ofO o) (op2 dgetF (fldF gw_Groups_chain Wo.get_uppers (fun t => .ofO t.1)) (op2 idxL (fun t => .ofO t.2.2.1) (op1 negI (fun _ => .ok (1 : Int))))))))
  (retTF (fun t => t.2.2.1) (fun t a => (t.1, (t.2.1, (a, t.2.2.2))))))))
noncomputable def Groups_chain : A_Groups_chain → List Wo → Res (List PySem.Str) := fun a w => endF (F_Groups_chain (some a.1, (some a.2.1, (none, (none, w)))))
abbrev T_name : Type := Option Int × Option Int × Option PySem.Str × Unit
abbrev A_name : Type := Int × Int × Unit
def F_name : T_name → Out T_name PySem.Str :=
  (seqS (asgS (fun _ => .ok (PySem.Str.ofString "abcdefghijklmnopqrstuvwxyz")) (fun t a => (t.1, (t.2.1, (some a, t.2.2.2)))))
  (seqS (ifS (op2 (eqA (α := Int)) (op2 modI (fun t => .ofO t.2.1) (fun _ => .ok (2 : Int))) (fun _ => .ok (0 : Int)))
  (retS (op2 addT (op2 addT (op2 idxT (fun t => .ofO t.2.2.1) (op2 modI (fun t => .ofO t.1) (fun _ => .ok (26 : Int)))) (op2 mulT (fun _ => .ok (PySem.Str.ofString "r")) (op2 modI (op2 divI (fun t => .ofO t.2.1) (fun _ => .ok (2 : Int))) (fun _ => .ok (7 : Int))))) (op2 idxT (fun t => .ofO t.2.2.1) (op2 modI (op2 addI (fun t => .ofO t.1) (op2 divI (fun t => .ofO t.2.1) (fun _ => .ok (14 : Int)))) (fun _ => .ok (26 : Int))))))
  skipS)
  (retS (op2 addT (op2 addT (op2 mulT (fun _ => .ok (PySem.Str.ofString "r")) (op2 modI (op2 divI (fun t => .ofO t.2.1) (fun _ => .ok (2 : Int))) (fun _ => .ok (7 : Int)))) (op2 idxT (fun t => .ofO t.2.2.1) (op2 divI (fun t => .ofO t.1) (fun _ => .ok (26 : Int))))) (op2 idxT (fun t => .ofO t.2.2.1) (op2 subI (fun _ => .ok (25 : Int)) (op2 modI (fun t => .ofO t.1) (fun _ => .ok (26 : Int)))))))))
def name : A_name → Res PySem.Str := fun a => endF (F_name (some a.1, (some a.2.1, (none, ()))))
abbrev T_Groups_add : Type := Option Hn × Option PySem.Str × Option (Option PySem.Str) × List Wo
abbrev gw_Groups_add : T_Groups_add → List Wo := fun t => t.2.2.2
abbrev pw_Groups_add : T_Groups_add → List Wo → T_Groups_add := fun t w => (t.1, (t.2.1, (t.2.2.1, w)))
abbrev A_Groups_add : Type := Hn × PySem.Str × (Option PySem.Str) × Unit
noncomputable def F_Groups_add : T_Groups_add → Out T_Groups_add Unit :=
  (seqS (ifS (op2 dinF (fun t => .ofO t.2.1) (fldF gw_Groups_add Wo.get_uppers (fun t => .ofO t.1)))
  (raiseS (op1 (fun s => .ok ⟨"Twice", some s⟩) (fun t => .ofO t.2.1)))
  skipS)
  (seqS (ifS (andE (op2 notNo (fun t => .ofO t.2.2.1) (fun _ => .ok ())) (op2 geI (op1 (fun x => lenL x.1) (op2 (fun a b => .ok (a, b)) (methR gw_Groups_add [("Groups", Groups_chain)] (fun t => .ofO t.1) (op2 (fun a b => .ok (a, b)) (op1 (fun o => .ofO o) (fun t => .ofO t.2.2.1)) (fun _ => .ok ()))) (fun _ => .ok ()))) (fun _ => .ok (8 : Int))))
  (raiseS (op1 (fun s => .ok ⟨"TooDeep", some s⟩) (fun t => .ofO t.2.1)))
  skipS)
  (seqS (dputX (fldF gw_Groups_add Wo.get_uppers (fun t => .ofO t.1)) (fldSet gw_Groups_add pw_Groups_add Wo.put_uppers (fun t => .ofO t.1)) (fun t => .ofO t.2.1) (liftX (fun t => .ofO t.2.2.1)))
  (dputX (fldF gw_Groups_add Wo.get_marks (fun t => .ofO t.1)) (fldSet gw_Groups_add pw_Groups_add Wo.put_marks (fun t => .ofO t.1)) (fun t => .ofO t.2.1) (liftX (fun _ => .ok false))))))
noncomputable def Groups_add : A_Groups_add → List Wo → OutX (List Wo) Unit := fun a w => endXU gw_Groups_add (F_Groups_add (some a.1, (some a.2.1, (some a.2.2.1, w))))
abbrev T_Groups_gathered : Type := Option Hn × Option PySem.Str × Option (List PySem.Str) × Option (List PySem.Str) × Option PySem.Str × Option (Option PySem.Str) × List Wo
abbrev gw_Groups_gathered : T_Groups_gathered → List Wo := fun t => t.2.2.2.2.2.2
abbrev pw_Groups_gathered : T_Groups_gathered → List Wo → T_Groups_gathered := fun t w => (t.1, (t.2.1, (t.2.2.1, (t.2.2.2.1, (t.2.2.2.2.1, (t.2.2.2.2.2.1, w))))))
abbrev A_Groups_gathered : Type := Hn × PySem.Str × Unit
def F_Groups_gathered (rec_ : A_Groups_gathered → List Wo → Res (List PySem.Str)) : T_Groups_gathered → Out T_Groups_gathered (List PySem.Str) :=
  (seqS (asgS (op1 (fun b => .ok ((fun b => ([b.1] : List PySem.Str)) b)) (op2 (fun a b => .ok (a, b)) (fun t => .ofO t.2.1) (fun _ => .ok ()))) (fun t a => (t.1, (t.2.1, (some a, (none, t.2.2.2.2))))))
  (seqS (forK (α := (T2 PySem.Str (Option PySem.Str))) (fun t => Res.bind (α := Dct PySem.Str (Option PySem.Str)) ((fldF gw_Groups_gathered Wo.get_uppers (fun t => .ofO t.1)) t) fun d => .ok ((fun d => d.kvs.map fun kv => (⟨kv.1, kv.2⟩ : T2 PySem.Str (Option PySem.Str))) d)) (putB (putC (fun t a => (t.1, (t.2.1, (t.2.2.1, (t.2.2.2.1, (some a, t.2.2.2.2.2)))))) (putC (fun t a => (t.1, (t.2.1, (t.2.2.1, (t.2.2.2.1, (t.2.2.2.2.1, (some a, t.2.2.2.2.2.2))))))) putN)) (fun a => (a.a, a.b, ())))
  (ifS (op2 (eqA (α := (Option PySem.Str))) (fun t => .ofO t.2.2.2.2.2.1) (op1 (fun a => .ok (some a)) (fun t => .ofO t.2.1)))
  (dropX (mutX (fun t => Res.ofO (t.2.2.1)) (fun t a => (fun t a => (t.1, (t.2.1, (a, t.2.2.2)))) t (some a)) (op2 (fun a b => .ok (a, b)) (methR gw_Groups_gathered [("Groups", rec_)] (fun t => .ofO t.1) (op2 (fun a b => .ok (a, b)) (fun t => .ofO t.2.2.2.2.1) (fun _ => .ok ()))) (fun _ => .ok ())) lExtend))
  skipS))
  (retTF (fun t => t.2.2.1) (fun t a => (t.1, (t.2.1, (a, t.2.2.2)))))))
def Groups_gathered_f : Nat → A_Groups_gathered → List Wo → Res (List PySem.Str)
  | 0 => fun _ _ => .stuck
  | n + 1 => fun a w => endF (F_Groups_gathered (Groups_gathered_f n) (some a.1, (some a.2.1, (none, (none, (none, (none, w)))))))
def Groups_gathered : A_Groups_gathered → List Wo → Res (List PySem.Str) := Groups_gathered_f 12
abbrev T_Groups_within : Type := Option Hn × Option PySem.Str × List Wo
abbrev gw_Groups_within : T_Groups_within → List Wo := fun t => t.2.2
abbrev pw_Groups_within : T_Groups_within → List Wo → T_Groups_within := fun t w => (t.1, (t.2.1, w))
abbrev A_Groups_within : Type := Hn × PySem.Str × Unit
def F_Groups_within : T_Groups_within → Out T_Groups_within (List PySem.Str) :=
  (seqS (dropS (methR gw_Groups_within [("Groups", Groups_sure)] (fun t => .ofO t.1) (op2 (fun a b => .ok (a, b)) (fun t => .ofO t.2.1) (fun _ => .ok ()))))
  (retS (op1 (fun x => .ok (sortL x.1)) (op2 (fun a b => .ok (a, b)) (methR gw_Groups_within [("Groups", Groups_gathered)] (fun t => .ofO t.1) (op2 (fun a b => .ok (a, b)) (fun t => .ofO t.2.1) (fun _ => .ok ()))) (fun _ => .ok ())))))
def Groups_within : A_Groups_within → List Wo → Res (List PySem.Str) := fun a w => endF (F_Groups_within (some a.1, (some a.2.1, w)))
abbrev T_Groups_awake : Type := Option Hn × Option PySem.Str × Option PySem.Str × List Wo
abbrev gw_Groups_awake : T_Groups_awake → List Wo := fun t => t.2.2.2
abbrev pw_Groups_awake : T_Groups_awake → List Wo → T_Groups_awake := fun t w => (t.1, (t.2.1, (t.2.2.1, w)))
abbrev A_Groups_awake : Type := Hn × PySem.Str × Unit
noncomputable def F_Groups_awake : T_Groups_awake → Out T_Groups_awake Bool :=
  (retS (notE (op1 (fun x => anyL x.1) (op2 (fun a b => .ok (a, b)) (lcE (methR gw_Groups_awake [("Groups", Groups_chain)] (fun t => .ofO t.1) (op2 (fun a b => .ok (a, b)) (fun t => .ofO t.2.1) (fun _ => .ok ()))) (fun t => (t.1, (t.2.1, (none, t.2.2.2)))) (fun t a => (t.1, (t.2.1, (some a, t.2.2.2)))) (fun _ => .ok true) (op2 dgetF (fldF gw_Groups_awake Wo.get_marks (fun t => .ofO t.1)) (fun t => .ofO t.2.2.1))) (fun _ => .ok ())))))
noncomputable def Groups_awake : A_Groups_awake → List Wo → Res Bool := fun a w => endF (F_Groups_awake (some a.1, (some a.2.1, (none, w))))
abbrev T_Groups_put_mark : Type := Option Hn × Option PySem.Str × Option Bool × Option (List PySem.Str) × Option (List PySem.Str) × Option PySem.Str × List Wo
abbrev gw_Groups_put_mark : T_Groups_put_mark → List Wo := fun t => t.2.2.2.2.2.2
abbrev pw_Groups_put_mark : T_Groups_put_mark → List Wo → T_Groups_put_mark := fun t w => (t.1, (t.2.1, (t.2.2.1, (t.2.2.2.1, (t.2.2.2.2.1, (t.2.2.2.2.2.1, w))))))
abbrev A_Groups_put_mark : Type := Hn × PySem.Str × Bool × Unit
noncomputable def F_Groups_put_mark : T_Groups_put_mark → Out T_Groups_put_mark (List PySem.Str) :=
  (seqS (asgS (methR gw_Groups_put_mark [("Groups", Groups_within)] (fun t => .ofO t.1) (op2 (fun a b => .ok (a, b)) (fun t => .ofO t.2.1) (fun _ => .ok ()))) (fun t a => (t.1, (t.2.1, (t.2.2.1, (some a, t.2.2.2.2))))))
  (seqS (asgS (lcE (fun t => .ofO t.2.2.2.1) (fun t => (t.1, (t.2.1, (t.2.2.1, (t.2.2.2.1, (t.2.2.2.2.1, (none, t.2.2.2.2.2.2))))))) (fun t a => (t.1, (t.2.1, (t.2.2.1, (t.2.2.2.1, (t.2.2.2.2.1, (some a, t.2.2.2.2.2.2))))))) (methR gw_Groups_put_mark [("Groups", Groups_awake)] (fun t => .ofO t.1) (op2 (fun a b => .ok (a, b)) (fun t => .ofO t.2.2.2.2.2.1) (fun _ => .ok ()))) (fun t => .ofO t.2.2.2.2.2.1)) (fun t a => (t.1, (t.2.1, (t.2.2.1, (t.2.2.2.1, (some a, t.2.2.2.2.2)))))))
  (seqS (dputX (fldF gw_Groups_put_mark Wo.get_marks (fun t => .ofO t.1)) (fldSet gw_Groups_put_mark pw_Groups_put_mark Wo.put_marks (fun t => .ofO t.1)) (fun t => .ofO t.2.1) (liftX (fun t => .ofO t.2.2.1)))
  (retS (lcE (fun t => .ofO t.2.2.2.1) (fun t => (t.1, (t.2.1, (t.2.2.1, (t.2.2.2.1, (t.2.2.2.2.1, (none, t.2.2.2.2.2.2))))))) (fun t a => (t.1, (t.2.1, (t.2.2.1, (t.2.2.2.1, (t.2.2.2.2.1, (some a, t.2.2.2.2.2.2))))))) (op2 (neA (α := Bool)) (methR gw_Groups_put_mark [("Groups", Groups_awake)] (fun t => .ofO t.1) (op2 (fun a b => .ok (a, b)) (fun t => .ofO t.2.2.2.2.2.1) (fun _ => .ok ()))) (op2 (inL (α := PySem.Str)) (fun t => .ofO t.2.2.2.2.2.1) (fun t => .ofO t.2.2.2.2.1))) (fun t => .ofO t.2.2.2.2.2.1))))))
noncomputable def Groups_put_mark : A_Groups_put_mark → List Wo → OutX (List Wo) (List PySem.Str) := fun a w => endX gw_Groups_put_mark (F_Groups_put_mark (some a.1, (some a.2.1, (some a.2.2.1, (none, (none, (none, w)))))))
abbrev T_Groups_sleep : Type := Option Hn × Option PySem.Str × List Wo
abbrev gw_Groups_sleep : T_Groups_sleep → List Wo := fun t => t.2.2
abbrev pw_Groups_sleep : T_Groups_sleep → List Wo → T_Groups_sleep := fun t w => (t.1, (t.2.1, w))
abbrev A_Groups_sleep : Type := Hn × PySem.Str × Unit
noncomputable def F_Groups_sleep : T_Groups_sleep → Out T_Groups_sleep (List PySem.Str) :=
  (retX (methX gw_Groups_sleep pw_Groups_sleep [("Groups", Groups_put_mark)] (liftX (fun t => .ofO t.1)) (xop2 (fun a b => .ok (a, b)) (liftX (fun t => .ofO t.2.1)) (xop2 (fun a b => .ok (a, b)) (liftX (fun _ => .ok true)) (fun t => .ok () t)))))
noncomputable def Groups_sleep : A_Groups_sleep → List Wo → OutX (List Wo) (List PySem.Str) := fun a w => endX gw_Groups_sleep (F_Groups_sleep (some a.1, (some a.2.1, w)))
abbrev T_Groups_wake : Type := Option Hn × Option PySem.Str × List Wo
abbrev gw_Groups_wake : T_Groups_wake → List Wo := fun t => t.2.2
abbrev pw_Groups_wake : T_Groups_wake → List Wo → T_Groups_wake := fun t w => (t.1, (t.2.1, w))
abbrev A_Groups_wake : Type := Hn × PySem.Str × Unit
noncomputable def F_Groups_wake : T_Groups_wake → Out T_Groups_wake (List PySem.Str) :=
  (retX (methX gw_Groups_wake pw_Groups_wake [("Groups", Groups_put_mark)] (liftX (fun t => .ofO t.1)) (xop2 (fun a b => .ok (a, b)) (liftX (fun t => .ofO t.2.1)) (xop2 (fun a b => .ok (a, b)) (liftX (fun _ => .ok false)) (fun t => .ok () t)))))
noncomputable def Groups_wake : A_Groups_wake → List Wo → OutX (List Wo) (List PySem.Str) := fun a w => endX gw_Groups_wake (F_Groups_wake (some a.1, (some a.2.1, w)))
abbrev T_Groups_marked : Type := Option Hn × Option PySem.Str × List Wo
abbrev gw_Groups_marked : T_Groups_marked → List Wo := fun t => t.2.2
abbrev pw_Groups_marked : T_Groups_marked → List Wo → T_Groups_marked := fun t w => (t.1, (t.2.1, w))
abbrev A_Groups_marked : Type := Hn × PySem.Str × Unit
def F_Groups_marked : T_Groups_marked → Out T_Groups_marked Bool :=
  (seqS (dropS (methR gw_Groups_marked [("Groups", Groups_sure)] (fun t => .ofO t.1) (op2 (fun a b => .ok (a, b)) (fun t => .ofO t.2.1) (fun _ => .ok ()))))
  (retS (op2 dgetF (fldF gw_Groups_marked Wo.get_marks (fun t => .ofO t.1)) (fun t => .ofO t.2.1))))
def Groups_marked : A_Groups_marked → List Wo → Res Bool := fun a w => endF (F_Groups_marked (some a.1, (some a.2.1, w)))
abbrev T_truth_is : Type := Option Bool × Option Bool × Unit
abbrev A_truth_is : Type := Bool × Bool × Unit
def F_truth_is : T_truth_is → Out T_truth_is Bool :=
  (retS (andE (op1 (fun _ => .ok true) (op2 (fun a b => .ok (a, b)) (fun t => .ofO t.1) (op2 (fun a b => .ok (a, b)) (fun _ => .ok (⟨⟩ : Cls0 "bool")) (fun _ => .ok ())))) (op2 (eqA (α := Bool)) (fun t => .ofO t.1) (fun t => .ofO t.2.1))))
def truth_is : A_truth_is → Res Bool := fun a => endF (F_truth_is (some a.1, (some a.2.1, ())))
abbrev T_stands : Type := Option Hn × Option (Dct PySem.Str Bool) × Option PySem.Str × Option Bool × Option Bool × Option PySem.Str × List Wo
abbrev gw_stands : T_stands → List Wo := fun t => t.2.2.2.2.2.2
abbrev pw_stands : T_stands → List Wo → T_stands := fun t w => (t.1, (t.2.1, (t.2.2.1, (t.2.2.2.1, (t.2.2.2.2.1, (t.2.2.2.2.2.1, w))))))
abbrev A_stands : Type := Hn × (Dct PySem.Str Bool) × Unit
noncomputable def F_stands : T_stands → Out T_stands Bool :=
  (seqS (forK (α := (T2 PySem.Str Bool)) (fun t => Res.bind (α := Dct PySem.Str Bool) ((fun t => .ofO t.2.1) t) fun d => .ok ((fun d => d.kvs.map fun kv => (⟨kv.1, kv.2⟩ : T2 PySem.Str Bool)) d)) (putB (putC (fun t a => (t.1, (t.2.1, (some a, t.2.2.2)))) (putC (fun t a => (t.1, (t.2.1, (t.2.2.1, (some a, t.2.2.2.2))))) putN)) (fun a => (a.a, a.b, ())))
  (seqS (ifS (notE (fun t => ((op2 (fun a b => .ok (a, b)) (methR gw_stands [("Groups", Groups_marked)] (fun t => .ofO t.1) (op2 (fun a b => .ok (a, b)) (fun t => .ofO t.2.2.1) (fun _ => .ok ()))) (op2 (fun a b => .ok (a, b)) (fun t => .ofO t.2.2.2.1) (fun _ => .ok ()))) t).bind fun a => truth_is ((fun a => a) a)))
  (retS (fun _ => .ok false))
  skipS)
  (seqS (asgS (fun _ => .ok true) (fun t a => (t.1, (t.2.1, (t.2.2.1, (t.2.2.2.1, (some a, t.2.2.2.2.2)))))))
  (seqS (forS (methR gw_stands [("Groups", Groups_chain)] (fun t => .ofO t.1) (op2 (fun a b => .ok (a, b)) (fun t => .ofO t.2.2.1) (fun _ => .ok ()))) (fun t a => (t.1, (t.2.1, (t.2.2.1, (t.2.2.2.1, (t.2.2.2.2.1, (some a, t.2.2.2.2.2.2)))))))
  (ifS (op2 dgetF (fun t => .ofO t.2.1) (fun t => .ofO t.2.2.2.2.2.1))
  (asgS (fun _ => .ok false) (fun t a => (t.1, (t.2.1, (t.2.2.1, (t.2.2.2.1, (some a, t.2.2.2.2.2)))))))
  skipS))
  (ifS (notE (fun t => ((op2 (fun a b => .ok (a, b)) (methR gw_stands [("Groups", Groups_awake)] (fun t => .ofO t.1) (op2 (fun a b => .ok (a, b)) (fun t => .ofO t.2.2.1) (fun _ => .ok ()))) (op2 (fun a b => .ok (a, b)) (fun t => .ofO t.2.2.2.2.1) (fun _ => .ok ()))) t).bind fun a => truth_is ((fun a => a) a)))
  (retS (fun _ => .ok false))
  skipS)))))
  (retS (fun _ => .ok true)))
noncomputable def stands : A_stands → List Wo → Res Bool := fun a w => endF (F_stands (some a.1, (some a.2.1, (none, (none, (none, (none, w)))))))
abbrev T_law : Type := Option Scr × Option Int × Option Hn × Option (Dct PySem.Str Bool) × Option (Dct PySem.Str Bool) × Option Int × Option (List PySem.Str) × Option (Option PySem.Str) × Option PySem.Str × Option PySem.Str × List Wo
abbrev gw_law : T_law → List Wo := fun t => t.2.2.2.2.2.2.2.2.2.2
abbrev pw_law : T_law → List Wo → T_law := fun t w => (t.1, (t.2.1, (t.2.2.1, (t.2.2.2.1, (t.2.2.2.2.1, (t.2.2.2.2.2.1, (t.2.2.2.2.2.2.1, (t.2.2.2.2.2.2.2.1, (t.2.2.2.2.2.2.2.2.1, (t.2.2.2.2.2.2.2.2.2.1, w))))))))))
abbrev A_law : Type := Scr × Unit
noncomputable def F_law : T_law → Out T_law Bool :=
  (seqS (asgS (fun t => ((op2 (fun a b => .ok (a, b)) (fun t => .ofO t.1) (op2 (fun a b => .ok (a, b)) (fun _ => .ok (0 : Int)) (fun _ => .ok ()))) t).bind fun a => cell_at ((fun a => a) a)) (fun t a => (t.1, (some a, t.2.2))))
  (seqS (asgX (newX gw_law pw_law (Wo.Groups none none) (fun a w => Groups_init (a.1, (fun a => a) a.2) w) (fun t => .ok () t)) (fun t a => (t.1, (t.2.1, (some a, t.2.2.2)))))
  (seqS (asgS (fun _ => .ok (⟨[]⟩ : (Dct PySem.Str Bool))) (fun t a => (t.1, (t.2.1, (t.2.2.1, (some a, (none, t.2.2.2.2.2)))))))
  (seqS (forS (op3 (fun xs a b => .ok (cut xs.ns a b)) (fun t => .ofO t.1) (op1 (fun i => .ok (some i)) (fun _ => .ok (1 : Int))) (op1 (fun i => .ok (some i)) (fun _ => .ok (37 : Int)))) (fun t a => (t.1, (t.2.1, (t.2.2.1, (t.2.2.2.1, (t.2.2.2.2.1, (some a, t.2.2.2.2.2.2)))))))
  (seqS (asgS (op1 (fun x => dkeysF x.1) (op2 (fun a b => .ok (a, b)) (fun t => .ofO t.2.2.2.1) (fun _ => .ok ()))) (fun t a => (t.1, (t.2.1, (t.2.2.1, (t.2.2.2.1, (t.2.2.2.2.1, (t.2.2.2.2.2.1, (some a, t.2.2.2.2.2.2.2)))))))))
  (seqS (ifS (orE (op2 (eqA (α := (List PySem.Str))) (fun t => .ofO t.2.2.2.2.2.2.1) (op1 (fun b => .ok ((fun _ => ([] : List PySem.Str)) b)) (fun _ => .ok ()))) (andE (op2 ltI (op2 modI (fun t => .ofO t.2.2.2.2.2.1) (fun _ => .ok (5 : Int))) (fun _ => .ok (2 : Int))) (op2 ltI (op1 (fun x => lenL x.1) (op2 (fun a b => .ok (a, b)) (fun t => .ofO t.2.2.2.2.2.2.1) (fun _ => .ok ()))) (fun _ => .ok (16 : Int)))))
  (seqS (asgS (fun _ => .ok (none : (Option PySem.Str))) (fun t a => (t.1, (t.2.1, (t.2.2.1, (t.2.2.2.1, (t.2.2.2.2.1, (t.2.2.2.2.2.1, (t.2.2.2.2.2.2.1, (some a, t.2.2.2.2.2.2.2.2))))))))))
  (seqS (ifS (andE (op2 (neA (α := (List PySem.Str))) (fun t => .ofO t.2.2.2.2.2.2.1) (op1 (fun b => .ok ((fun _ => ([] : List PySem.Str)) b)) (fun _ => .ok ()))) (op2 gtI (op2 modI (op2 divI (fun t => .ofO t.2.2.2.2.2.1) (fun _ => .ok (5 : Int))) (fun _ => .ok (6 : Int))) (fun _ => .ok (0 : Int))))
  (asgS (op1 (fun a => .ok (some a)) (fun t => ((op2 (fun a b => .ok (a, b)) (fun t => .ofO t.2.2.2.2.2.2.1) (op2 (fun a b => .ok (a, b)) (op2 divI (fun t => .ofO t.2.2.2.2.2.1) (fun _ => .ok (30 : Int))) (fun _ => .ok ()))) t).bind fun a => named ((fun a => a) a))) (fun t a => (t.1, (t.2.1, (t.2.2.1, (t.2.2.2.1, (t.2.2.2.2.1, (t.2.2.2.2.2.1, (t.2.2.2.2.2.2.1, (some a, t.2.2.2.2.2.2.2.2))))))))))
  skipS)
  (seqS (ifS (andE (op2 notNo (fun t => .ofO t.2.2.2.2.2.2.2.1) (fun _ => .ok ())) (op2 gtI (op1 (fun x => lenL x.1) (op2 (fun a b => .ok (a, b)) (methR gw_law [("Groups", Groups_chain)] (fun t => .ofO t.2.2.1) (op2 (fun a b => .ok (a, b)) (op1 (fun o => .ofO o) (fun t => .ofO t.2.2.2.2.2.2.2.1)) (fun _ => .ok ()))) (fun _ => .ok ()))) (fun _ => .ok (7 : Int))))
  (asgS (op1 (fun a => .ok (some a)) (op2 idxL (fun t => .ofO t.2.2.2.2.2.2.1) (fun _ => .ok (0 : Int)))) (fun t a => (t.1, (t.2.1, (t.2.2.1, (t.2.2.2.1, (t.2.2.2.2.1, (t.2.2.2.2.2.1, (t.2.2.2.2.2.2.1, (some a, t.2.2.2.2.2.2.2.2))))))))))
  skipS)
  (seqS (asgS (fun t => ((op2 (fun a b => .ok (a, b)) (op1 (fun x => lenL x.1) (op2 (fun a b => .ok (a, b)) (fun t => .ofO t.2.2.2.2.2.2.1) (fun _ => .ok ()))) (op2 (fun a b => .ok (a, b)) (fun t => .ofO t.2.1) (fun _ => .ok ()))) t).bind fun a => name ((fun a => a) a)) (fun t a => (t.1, (t.2.1, (t.2.2.1, (t.2.2.2.1, (t.2.2.2.2.1, (t.2.2.2.2.2.1, (t.2.2.2.2.2.2.1, (t.2.2.2.2.2.2.2.1, (some a, t.2.2.2.2.2.2.2.2.2)))))))))))
  (seqS (dropX (methX gw_law pw_law [("Groups", Groups_add)] (liftX (fun t => .ofO t.2.2.1)) (xop2 (fun a b => .ok (a, b)) (liftX (fun t => .ofO t.2.2.2.2.2.2.2.2.1)) (xop2 (fun a b => .ok (a, b)) (liftX (fun t => .ofO t.2.2.2.2.2.2.2.1)) (fun t => .ok () t)))))
  (dputF (fun t => t.2.2.2.1) (fun t a => (t.1, (t.2.1, (t.2.2.1, (a, t.2.2.2.2))))) (fun t => .ofO t.2.2.2.2.2.2.2.2.1) (fun _ => .ok false)))))))
  (ifS (op2 ltI (op2 modI (fun t => .ofO t.2.2.2.2.2.1) (fun _ => .ok (5 : Int))) (fun _ => .ok (4 : Int)))
  (seqS (asgS (fun t => ((op2 (fun a b => .ok (a, b)) (fun t => .ofO t.2.2.2.2.2.2.1) (op2 (fun a b => .ok (a, b)) (op2 divI (fun t => .ofO t.2.2.2.2.2.1) (fun _ => .ok (5 : Int))) (fun _ => .ok ()))) t).bind fun a => named ((fun a => a) a)) (fun t a => (t.1, (t.2.1, (t.2.2.1, (t.2.2.2.1, (t.2.2.2.2.1, (t.2.2.2.2.2.1, (t.2.2.2.2.2.2.1, (t.2.2.2.2.2.2.2.1, (some a, t.2.2.2.2.2.2.2.2.2)))))))))))
  (seqS (dropX (methX gw_law pw_law [("Groups", Groups_sleep)] (liftX (fun t => .ofO t.2.2.1)) (xop2 (fun a b => .ok (a, b)) (liftX (fun t => .ofO t.2.2.2.2.2.2.2.2.1)) (fun t => .ok () t))))
  (dputF (fun t => t.2.2.2.1) (fun t a => (t.1, (t.2.1, (t.2.2.1, (a, t.2.2.2.2))))) (fun t => .ofO t.2.2.2.2.2.2.2.2.1) (fun _ => .ok true))))
  (seqS (asgS (fun t => ((op2 (fun a b => .ok (a, b)) (fun t => .ofO t.2.2.2.2.2.2.1) (op2 (fun a b => .ok (a, b)) (op2 divI (fun t => .ofO t.2.2.2.2.2.1) (fun _ => .ok (5 : Int))) (fun _ => .ok ()))) t).bind fun a => named ((fun a => a) a)) (fun t a => (t.1, (t.2.1, (t.2.2.1, (t.2.2.2.1, (t.2.2.2.2.1, (t.2.2.2.2.2.1, (t.2.2.2.2.2.2.1, (t.2.2.2.2.2.2.2.1, (some a, t.2.2.2.2.2.2.2.2.2)))))))))))
  (seqS (ifS (op2 (eqA (α := Int)) (op2 modI (op2 divI (fun t => .ofO t.2.2.2.2.2.1) (fun _ => .ok (5 : Int))) (fun _ => .ok (3 : Int))) (fun _ => .ok (0 : Int)))
  (asgS (op2 idxL (lcE (fun t => .ofO t.2.2.2.2.2.2.1) (fun t => (t.1, (t.2.1, (t.2.2.1, (t.2.2.2.1, (t.2.2.2.2.1, (t.2.2.2.2.2.1, (t.2.2.2.2.2.2.1, (t.2.2.2.2.2.2.2.1, (t.2.2.2.2.2.2.2.2.1, (none, t.2.2.2.2.2.2.2.2.2.2))))))))))) (fun t a => (t.1, (t.2.1, (t.2.2.1, (t.2.2.2.1, (t.2.2.2.2.1, (t.2.2.2.2.2.1, (t.2.2.2.2.2.2.1, (t.2.2.2.2.2.2.2.1, (t.2.2.2.2.2.2.2.2.1, (some a, t.2.2.2.2.2.2.2.2.2.2))))))))))) (orE (op2 dgetF (fun t => .ofO t.2.2.2.1) (fun t => .ofO t.2.2.2.2.2.2.2.2.2.1)) (op2 (eqA (α := PySem.Str)) (fun t => .ofO t.2.2.2.2.2.2.2.2.2.1) (op2 idxL (fun t => .ofO t.2.2.2.2.2.2.1) (fun _ => .ok (0 : Int))))) (fun t => .ofO t.2.2.2.2.2.2.2.2.2.1)) (op1 negI (fun _ => .ok (1 : Int)))) (fun t a => (t.1, (t.2.1, (t.2.2.1, (t.2.2.2.1, (t.2.2.2.2.1, (t.2.2.2.2.2.1, (t.2.2.2.2.2.2.1, (t.2.2.2.2.2.2.2.1, (some a, t.2.2.2.2.2.2.2.2.2)))))))))))
  skipS)
  (seqS (dropX (methX gw_law pw_law [("Groups", Groups_wake)] (liftX (fun t => .ofO t.2.2.1)) (xop2 (fun a b => .ok (a, b)) (liftX (fun t => .ofO t.2.2.2.2.2.2.2.2.1)) (fun t => .ok () t))))
  (dputF (fun t => t.2.2.2.1) (fun t a => (t.1, (t.2.1, (t.2.2.1, (a, t.2.2.2.2))))) (fun t => .ofO t.2.2.2.2.2.2.2.2.1) (fun _ => .ok false)))))))
  (ifS (notE (fun t => ((op2 (fun a b => .ok (a, b)) (fun t => .ofO t.2.2.1) (op2 (fun a b => .ok (a, b)) (fun t => .ofO t.2.2.2.1) (fun _ => .ok ()))) t).bind fun a => stands ((fun a => a) a) (gw_law t)))
  (retS (fun _ => .ok false))
  skipS))))
  (retS (fun _ => .ok true))))))
noncomputable def law : A_law → List Wo → OutX (List Wo) Bool := fun a w => endX gw_law (F_law (some a.1, (none, (none, (none, (none, (none, (none, (none, (none, (none, w)))))))))))
end M

set_option linter.all false
set_option maxRecDepth 100000
namespace M
open PySem (Str)
def cellV (ns : List Int) (i : Nat) : Int := ns.getD i 0
theorem cell_at_ok (s : Scr) (i : Nat) : cell_at (s, (i : Int), ()) = .ok (cellV s.ns i) := by
  apply eq_of_W
  simp only [W_endF, W_endU, X_endX, X_endXU, W_asgX, W_dropX, W_retX, W_ifX, W_forX, X_ok, X_ex, X_liftX, X_xop1, X_xop2, X_xite, X_xand, X_xor, X_xnot, X_call, X_new, X_meth, X_mut, W_methR, W_isW, W_fldF, W_stoF, W_dputX, W_lputX, W_lInsert, W_lAppend, W_lExtend, W_lPopAt, W_lPop, W_dPop, W_dgetO, W_ltIS, W_isNU, W_notNU, W_raise, W_seq, W_asg, W_drop, W_ret, W_if, W_skip, W_brk, W_cnt, W_pre, W_for, W_app', W_retT', W_dget, W_din, W_dnin, W_dlen, W_dkeys, W_dput', W_clear', W_try, W_tryGo, W_asSu, W_isX, W_nameX, W_startsT, W_strI, W_andI, W_orI, W_xorI, W_shlI, W_dmodI, W_bitsI, X_box, W_forK, W_eqK, W_dclear', W_rtN, W_ok, W_ex, W_bind, W_ofO, W_chk, W_op1, W_op2, W_op3, W_iteE, W_andE, W_orE, W_notE, W_chainE, W_addI, W_subI, W_mulI, W_divI, W_modI, W_negI, W_ltI, W_leI, W_gtI, W_geI, W_eqA, W_neA, W_inL, W_ninL, W_isNo, W_notNo, W_anyL, W_allL, W_sumL, W_lenL, W_min2, W_max2, W_intB, W_idxL, W_sizeL, W_catL, W_rng, W_addT, W_idxT, W_cutT, W_lenT, W_ltT, W_lcE, W_eqD, W_neD, W_inD, W_ninD, asT_enc, okD_enc, Bool.and_self, decide_eq_true_eq, Bool.not_eq_true', decide_eq_false_iff_not, true_and, and_true, if_true, if_false, Bool.false_eq_true, Bool.not_true, Bool.not_false, putB, putC, putN, cell_at, F_cell_at]
  by_cases h : (i : Int) < s.ns.length
  · rw [if_pos h]
    refine W_at (by omega) h fun a _ e => ?_
    unfold cellV
    rw [List.getD_eq_getElem?_getD, show i = ((i : Int)).toNat by omega, e]
    rfl
  · rw [if_neg h]
    unfold cellV
    rw [List.getD_eq_getElem?_getD, List.getElem?_eq_none (by omega)]
    rfl
/-! ### two names unlike at one place -/
def mulZ (x : Str) (n : Int) : Str := if n < 1 then PySem.Str.empty else if (n == 1 || x.length == 0) = true then x else ⟨(List.replicate n.toNat x.cps).foldl (· ++ ·) #[]⟩
theorem fold_sz (c : Array Nat) : ∀ (k : Nat) (a : Array Nat), ((List.replicate k c).foldl (· ++ ·) a).size = a.size + k * c.size
  | 0, a => by simp
  | k + 1, a => by
    rw [List.replicate_succ, List.foldl_cons, fold_sz c k, Array.size_append]
    rw [Nat.add_mul]
    omega
theorem mulZ_len (x : Str) (n : Int) : (mulZ x n).length ≤ x.length * n.toNat := by
  unfold mulZ
  split
  · exact Nat.zero_le _
  · split
    · rename_i h1 h2
      rw [Bool.or_eq_true, beq_iff_eq, beq_iff_eq] at h2
      rcases h2 with h2 | h2
      · rw [h2]; simp
      · omega
    · show ((List.replicate n.toNat x.cps).foldl (· ++ ·) #[]).size ≤ _
      rw [fold_sz, Nat.mul_comm]
      show (#[] : Array Nat).size + _ ≤ _
      simp
      exact Nat.le_refl _
theorem W_mulT {E : Exn → Prop} {x : Str} {n : Int} {Q : Str → Prop} : (mulT x n).W E Q = ((-(2 ^ 31) < n ∧ n < 2 ^ 31 ∧ x.length * n.toNat ≤ sizeLn ∧ x.length < 2 ^ 31) ∧ Q (mulZ x n)) := by unfold mulT; rw [W_chk, decide_eq_true_eq]; rfl
/-! ### groups within groups -/
abbrev UD := Dct Str (Option Str)
abbrev MD := Dct Str Bool
def GAt (w : List Wo) (h : Hn) (U : UD) (M : MD) : Prop := w[h.i]? = some (.Groups (some U) (some M))
theorem GAt.row {ρ : Type} {w : List Wo} {h : Hn} {U : UD} {M : MD} (e : GAt w h U M) (A : ρ) : rowOf [("Groups", A)] w h = some A := by
  have e : w[h.i]? = some (.Groups (some U) (some M)) := e
  unfold rowOf clsW
  rw [e]
  rfl
theorem set_get {w : List Wo} {h : Hn} {o o2 : Wo} (e : w[h.i]? = some o) : (w.set h.i o2)[h.i]? = some o2 := List.getElem?_set_self (List.getElem?_eq_some_iff.mp e).1
structure GI (U : UD) (M : MD) (dep : Str → Nat) : Prop where
  nd : (U.kvs.map (·.1)).Nodup
  len : U.kvs.length ≤ 1000
  up : ∀ n u, U.get n = some u → 1 ≤ dep n ∧ dep n ≤ 8 ∧ (u = none → dep n = 1) ∧ ∀ p, u = some p → (∃ v, U.get p = some v) ∧ dep n = dep p + 1
  mks : M.kvs.map (·.1) = U.kvs.map (·.1)
def IsG (U : UD) (n : Str) : Prop := ∃ u, U.get n = some u
theorem isG_key {U : UD} {n : Str} : IsG U n ↔ n ∈ U.kvs.map (·.1) := by
  rw [← getK_some]
  exact ⟨fun ⟨u, e⟩ => by rw [show getK U.kvs n = some u from e]; rfl, fun e => Option.isSome_iff_exists.mp e⟩
theorem getK_of {κ α : Type} [DecidableEq κ] {k : κ} {v : α} : ∀ {kvs : List (κ × α)}, (kvs.map (·.1)).Nodup → (k, v) ∈ kvs → getK kvs k = some v
  | [], _, h => nomatch h
  | p :: r, nd, h => by
    unfold getK
    rw [List.map_cons, List.nodup_cons] at nd
    rcases List.mem_cons.mp h with rfl | h
    · rw [if_pos rfl]
    · rw [if_neg fun e => nd.1 (by rw [e]; exact List.mem_map.mpr ⟨_, h, rfl⟩)]
      exact getK_of nd.2 h
/-- a group and all above it -/
def chF (U : UD) : Nat → Str → List Str
  | 0, n => [n]
  | f + 1, n => match U.get n with
    | some (some p) => n :: chF U f p
    | _ => [n]
section
variable {w : List Wo} {h : Hn} {U : UD} {M : MD} {dep : Str → Nat}
theorem GI.mark (I : GI U M dep) {n : Str} (g : IsG U n) : ∃ b, M.get n = some b := by
  have := isG_key.mp g
  rw [← I.mks] at this
  exact Option.isSome_iff_exists.mp (getK_some.mpr this)
theorem chF_spec (I : GI U M dep) : ∀ (f : Nat) (n : Str), IsG U n → dep n ≤ f + 1 → (chF U f n).length = dep n ∧ ∀ x ∈ chF U f n, IsG U x
  | 0, n, g, hd => by
    obtain ⟨u, e⟩ := g
    have := (I.up n u e).1
    exact ⟨by show 1 = dep n; omega, fun x hx => by rw [List.mem_singleton.mp hx]; exact ⟨u, e⟩⟩
  | f + 1, n, g, hd => by
    obtain ⟨u, e⟩ := g
    obtain ⟨_, _, h1, h2⟩ := I.up n u e
    unfold chF
    rw [e]
    cases u with
    | none => exact ⟨by show 1 = dep n; exact (h1 rfl).symm, fun x hx => by rw [List.mem_singleton.mp hx]; exact ⟨_, e⟩⟩
    | some p =>
      obtain ⟨gp, hp⟩ := h2 p rfl
      obtain ⟨i1, i2⟩ := chF_spec I f p gp (by omega)
      refine ⟨by show (chF U f p).length + 1 = dep n; omega, fun x hx => ?_⟩
      rcases List.mem_cons.mp hx with rfl | hx
      · exact ⟨_, e⟩
      · exact i2 x hx
theorem sure_ok (e : GAt w h U M) {n : Str} (g : IsG U n) : Groups_sure (h, n, ()) w = .ok () := by
  have e : w[h.i]? = some (.Groups (some U) (some M)) := e
  apply eq_of_W
  unfold Groups_sure F_Groups_sure
  simp only [W_endF, W_endU, X_endX, X_endXU, W_asgX, W_dropX, W_retX, W_ifX, W_forX, X_ok, X_ex, X_liftX, X_xop1, X_xop2, X_xite, X_xand, X_xor, X_xnot, X_call, X_new, X_meth, X_mut, W_methR, W_isW, W_fldF, W_stoF, W_dputX, W_lputX, W_lInsert, W_lAppend, W_lExtend, W_lPopAt, W_lPop, W_dPop, W_dgetO, W_ltIS, W_isNU, W_notNU, W_raise, W_seq, W_asg, W_drop, W_ret, W_if, W_skip, W_brk, W_cnt, W_pre, W_for, W_app', W_retT', W_dget, W_din, W_dnin, W_dlen, W_dkeys, W_dput', W_clear', W_try, W_tryGo, W_asSu, W_isX, W_nameX, W_startsT, W_strI, W_andI, W_orI, W_xorI, W_shlI, W_dmodI, W_bitsI, X_box, W_forK, W_eqK, W_dclear', W_rtN, W_ok, W_ex, W_bind, W_ofO, W_chk, W_op1, W_op2, W_op3, W_iteE, W_andE, W_orE, W_notE, W_chainE, W_addI, W_subI, W_mulI, W_divI, W_modI, W_negI, W_ltI, W_leI, W_gtI, W_geI, W_eqA, W_neA, W_inL, W_ninL, W_isNo, W_notNo, W_anyL, W_allL, W_sumL, W_lenL, W_min2, W_max2, W_intB, W_idxL, W_sizeL, W_catL, W_rng, W_addT, W_idxT, W_cutT, W_lenT, W_ltT, W_lcE, W_eqD, W_neD, W_inD, W_ninD, asT_enc, okD_enc, Bool.and_self, decide_eq_true_eq, Bool.not_eq_true', decide_eq_false_iff_not, true_and, and_true, if_true, if_false, Bool.false_eq_true, Bool.not_true, Bool.not_false, putB, putC, putN, gw_Groups_sure, e, Option.bind_some, Wo.get_uppers]
  obtain ⟨u, hu⟩ := g
  refine ⟨U, rfl, ?_⟩
  rw [hu]
  rw [if_neg (by simp)]
  trivial
theorem last1 {α : Type} {xs : List α} {x : α} : atI (xs ++ [x]) (-1) = some x := by
  unfold atI ixN
  simp
  rw [if_pos (by omega)]
  show (xs ++ [x])[(-1 + ((xs.length : Int) + 1)).toNat]? = some x
  rw [show (-1 + ((xs.length : Int) + 1)).toNat = xs.length by omega]
  simp
theorem chain_ok (I : GI U M dep) (e : GAt w h U M) {n : Str} (g : IsG U n) : Groups_chain (h, n, ()) w = .ok (chF U 8 n) := by
  have e0 := e
  have sl := sizeLn_eq
  have e : w[h.i]? = some (.Groups (some U) (some M)) := e
  apply eq_of_W
  unfold Groups_chain F_Groups_chain
  simp only [W_endF, W_endU, X_endX, X_endXU, W_asgX, W_dropX, W_retX, W_ifX, W_forX, X_ok, X_ex, X_liftX, X_xop1, X_xop2, X_xite, X_xand, X_xor, X_xnot, X_call, X_new, X_meth, X_mut, W_methR, W_isW, W_fldF, W_stoF, W_dputX, W_lputX, W_lInsert, W_lAppend, W_lExtend, W_lPopAt, W_lPop, W_dPop, W_dgetO, W_ltIS, W_isNU, W_notNU, W_raise, W_seq, W_asg, W_drop, W_ret, W_if, W_skip, W_brk, W_cnt, W_pre, W_for, W_app', W_retT', W_dget, W_din, W_dnin, W_dlen, W_dkeys, W_dput', W_clear', W_try, W_tryGo, W_asSu, W_isX, W_nameX, W_startsT, W_strI, W_andI, W_orI, W_xorI, W_shlI, W_dmodI, W_bitsI, X_box, W_forK, W_eqK, W_dclear', W_rtN, W_ok, W_ex, W_bind, W_ofO, W_chk, W_op1, W_op2, W_op3, W_iteE, W_andE, W_orE, W_notE, W_chainE, W_addI, W_subI, W_mulI, W_divI, W_modI, W_negI, W_ltI, W_leI, W_gtI, W_geI, W_eqA, W_neA, W_inL, W_ninL, W_isNo, W_notNo, W_anyL, W_allL, W_sumL, W_lenL, W_min2, W_max2, W_intB, W_idxL, W_sizeL, W_catL, W_rng, W_addT, W_idxT, W_cutT, W_lenT, W_ltT, W_lcE, W_eqD, W_neD, W_inD, W_ninD, asT_enc, okD_enc, Bool.and_self, decide_eq_true_eq, Bool.not_eq_true', decide_eq_false_iff_not, true_and, and_true, if_true, if_false, Bool.false_eq_true, Bool.not_true, Bool.not_false, putB, putC, putN, gw_Groups_chain]
  refine ⟨_, e0.row _, ?_⟩
  rw [sure_ok e0 g]
  simp only [W_endF, W_endU, X_endX, X_endXU, W_asgX, W_dropX, W_retX, W_ifX, W_forX, X_ok, X_ex, X_liftX, X_xop1, X_xop2, X_xite, X_xand, X_xor, X_xnot, X_call, X_new, X_meth, X_mut, W_methR, W_isW, W_fldF, W_stoF, W_dputX, W_lputX, W_lInsert, W_lAppend, W_lExtend, W_lPopAt, W_lPop, W_dPop, W_dgetO, W_ltIS, W_isNU, W_notNU, W_raise, W_seq, W_asg, W_drop, W_ret, W_if, W_skip, W_brk, W_cnt, W_pre, W_for, W_app', W_retT', W_dget, W_din, W_dnin, W_dlen, W_dkeys, W_dput', W_clear', W_try, W_tryGo, W_asSu, W_isX, W_nameX, W_startsT, W_strI, W_andI, W_orI, W_xorI, W_shlI, W_dmodI, W_bitsI, X_box, W_forK, W_eqK, W_dclear', W_rtN, W_ok, W_ex, W_bind, W_ofO, W_chk, W_op1, W_op2, W_op3, W_iteE, W_andE, W_orE, W_notE, W_chainE, W_addI, W_subI, W_mulI, W_divI, W_modI, W_negI, W_ltI, W_leI, W_gtI, W_geI, W_eqA, W_neA, W_inL, W_ninL, W_isNo, W_notNo, W_anyL, W_allL, W_sumL, W_lenL, W_min2, W_max2, W_intB, W_idxL, W_sizeL, W_catL, W_rng, W_addT, W_idxT, W_cutT, W_lenT, W_ltT, W_lcE, W_eqD, W_neD, W_inD, W_ninD, asT_enc, okD_enc, Bool.and_self, decide_eq_true_eq, Bool.not_eq_true', decide_eq_false_iff_not, true_and, and_true, if_true, if_false, Bool.false_eq_true, Bool.not_true, Bool.not_false, putB, putC, putN]
  intro v hv
  have hd : dep n ≤ 8 := by
    obtain ⟨u, hu⟩ := g
    exact (I.up n u hu).2.1
  refine W_while (fun t => ∃ pre x f, t = (some h, some n, some (pre ++ [x]), none, w) ∧ pre ++ chF U f x = chF U 8 n ∧ dep x ≤ f + 1 ∧ IsG U x ∧ pre.length + dep x = dep n) (fun t => 9 - (match t.2.2.1 with | some l => l.length | none => 0)) (fun t ⟨pre, x, f, et, h1, h2, h3, h4⟩ => ?_) ⟨[], n, 8, by rw [hv]; rfl, rfl, by omega, g, by simp⟩
  subst et
  obtain ⟨u, hu⟩ := h3
  obtain ⟨d1, d2, n1, n2⟩ := I.up x u hu
  simp only [W_endF, W_endU, X_endX, X_endXU, W_asgX, W_dropX, W_retX, W_ifX, W_forX, X_ok, X_ex, X_liftX, X_xop1, X_xop2, X_xite, X_xand, X_xor, X_xnot, X_call, X_new, X_meth, X_mut, W_methR, W_isW, W_fldF, W_stoF, W_dputX, W_lputX, W_lInsert, W_lAppend, W_lExtend, W_lPopAt, W_lPop, W_dPop, W_dgetO, W_ltIS, W_isNU, W_notNU, W_raise, W_seq, W_asg, W_drop, W_ret, W_if, W_skip, W_brk, W_cnt, W_pre, W_for, W_app', W_retT', W_dget, W_din, W_dnin, W_dlen, W_dkeys, W_dput', W_clear', W_try, W_tryGo, W_asSu, W_isX, W_nameX, W_startsT, W_strI, W_andI, W_orI, W_xorI, W_shlI, W_dmodI, W_bitsI, X_box, W_forK, W_eqK, W_dclear', W_rtN, W_ok, W_ex, W_bind, W_ofO, W_chk, W_op1, W_op2, W_op3, W_iteE, W_andE, W_orE, W_notE, W_chainE, W_addI, W_subI, W_mulI, W_divI, W_modI, W_negI, W_ltI, W_leI, W_gtI, W_geI, W_eqA, W_neA, W_inL, W_ninL, W_isNo, W_notNo, W_anyL, W_allL, W_sumL, W_lenL, W_min2, W_max2, W_intB, W_idxL, W_sizeL, W_catL, W_rng, W_addT, W_idxT, W_cutT, W_lenT, W_ltT, W_lcE, W_eqD, W_neD, W_inD, W_ninD, asT_enc, okD_enc, Bool.and_self, decide_eq_true_eq, Bool.not_eq_true', decide_eq_false_iff_not, true_and, and_true, if_true, if_false, Bool.false_eq_true, Bool.not_true, Bool.not_false, putB, putC, putN, e, Option.bind_some, Wo.get_uppers]
  refine ⟨U, rfl, x, last1, u, hu, ?_⟩
  cases u with
  | none =>
    simp only [W_endF, W_endU, X_endX, X_endXU, W_asgX, W_dropX, W_retX, W_ifX, W_forX, X_ok, X_ex, X_liftX, X_xop1, X_xop2, X_xite, X_xand, X_xor, X_xnot, X_call, X_new, X_meth, X_mut, W_methR, W_isW, W_fldF, W_stoF, W_dputX, W_lputX, W_lInsert, W_lAppend, W_lExtend, W_lPopAt, W_lPop, W_dPop, W_dgetO, W_ltIS, W_isNU, W_notNU, W_raise, W_seq, W_asg, W_drop, W_ret, W_if, W_skip, W_brk, W_cnt, W_pre, W_for, W_app', W_retT', W_dget, W_din, W_dnin, W_dlen, W_dkeys, W_dput', W_clear', W_try, W_tryGo, W_asSu, W_isX, W_nameX, W_startsT, W_strI, W_andI, W_orI, W_xorI, W_shlI, W_dmodI, W_bitsI, X_box, W_forK, W_eqK, W_dclear', W_rtN, W_ok, W_ex, W_bind, W_ofO, W_chk, W_op1, W_op2, W_op3, W_iteE, W_andE, W_orE, W_notE, W_chainE, W_addI, W_subI, W_mulI, W_divI, W_modI, W_negI, W_ltI, W_leI, W_gtI, W_geI, W_eqA, W_neA, W_inL, W_ninL, W_isNo, W_notNo, W_anyL, W_allL, W_sumL, W_lenL, W_min2, W_max2, W_intB, W_idxL, W_sizeL, W_catL, W_rng, W_addT, W_idxT, W_cutT, W_lenT, W_ltT, W_lcE, W_eqD, W_neD, W_inD, W_ninD, asT_enc, okD_enc, Bool.and_self, decide_eq_true_eq, Bool.not_eq_true', decide_eq_false_iff_not, true_and, and_true, if_true, if_false, Bool.false_eq_true, Bool.not_true, Bool.not_false, putB, putC, putN, Option.isNone_none]
    rw [if_neg (by decide)]
    rw [← h1]
    congr 1
    cases f with
    | zero => rfl
    | succ f => unfold chF; rw [hu]
  | some p =>
    simp only [W_endF, W_endU, X_endX, X_endXU, W_asgX, W_dropX, W_retX, W_ifX, W_forX, X_ok, X_ex, X_liftX, X_xop1, X_xop2, X_xite, X_xand, X_xor, X_xnot, X_call, X_new, X_meth, X_mut, W_methR, W_isW, W_fldF, W_stoF, W_dputX, W_lputX, W_lInsert, W_lAppend, W_lExtend, W_lPopAt, W_lPop, W_dPop, W_dgetO, W_ltIS, W_isNU, W_notNU, W_raise, W_seq, W_asg, W_drop, W_ret, W_if, W_skip, W_brk, W_cnt, W_pre, W_for, W_app', W_retT', W_dget, W_din, W_dnin, W_dlen, W_dkeys, W_dput', W_clear', W_try, W_tryGo, W_asSu, W_isX, W_nameX, W_startsT, W_strI, W_andI, W_orI, W_xorI, W_shlI, W_dmodI, W_bitsI, X_box, W_forK, W_eqK, W_dclear', W_rtN, W_ok, W_ex, W_bind, W_ofO, W_chk, W_op1, W_op2, W_op3, W_iteE, W_andE, W_orE, W_notE, W_chainE, W_addI, W_subI, W_mulI, W_divI, W_modI, W_negI, W_ltI, W_leI, W_gtI, W_geI, W_eqA, W_neA, W_inL, W_ninL, W_isNo, W_notNo, W_anyL, W_allL, W_sumL, W_lenL, W_min2, W_max2, W_intB, W_idxL, W_sizeL, W_catL, W_rng, W_addT, W_idxT, W_cutT, W_lenT, W_ltT, W_lcE, W_eqD, W_neD, W_inD, W_ninD, asT_enc, okD_enc, Bool.and_self, decide_eq_true_eq, Bool.not_eq_true', decide_eq_false_iff_not, true_and, and_true, if_true, if_false, Bool.false_eq_true, Bool.not_true, Bool.not_false, putB, putC, putN, Option.isNone_some]
    obtain ⟨gp, hp⟩ := n2 p rfl
    have dp1 : 1 ≤ dep p := by
      obtain ⟨vp, hvp⟩ := gp
      exact (I.up p vp hvp).1
    obtain ⟨f, rfl⟩ : ∃ k, f = k + 1 := ⟨f - 1, by omega⟩
    have h1' : pre ++ (x :: chF U f p) = chF U 8 n := by
      rw [← h1]
      congr 1
      conv => rhs; unfold chF
      rw [hu]
    refine ⟨U, rfl, x, last1, some p, hu, ?_⟩
    simp only [W_endF, W_endU, X_endX, X_endXU, W_asgX, W_dropX, W_retX, W_ifX, W_forX, X_ok, X_ex, X_liftX, X_xop1, X_xop2, X_xite, X_xand, X_xor, X_xnot, X_call, X_new, X_meth, X_mut, W_methR, W_isW, W_fldF, W_stoF, W_dputX, W_lputX, W_lInsert, W_lAppend, W_lExtend, W_lPopAt, W_lPop, W_dPop, W_dgetO, W_ltIS, W_isNU, W_notNU, W_raise, W_seq, W_asg, W_drop, W_ret, W_if, W_skip, W_brk, W_cnt, W_pre, W_for, W_app', W_retT', W_dget, W_din, W_dnin, W_dlen, W_dkeys, W_dput', W_clear', W_try, W_tryGo, W_asSu, W_isX, W_nameX, W_startsT, W_strI, W_andI, W_orI, W_xorI, W_shlI, W_dmodI, W_bitsI, X_box, W_forK, W_eqK, W_dclear', W_rtN, W_ok, W_ex, W_bind, W_ofO, W_chk, W_op1, W_op2, W_op3, W_iteE, W_andE, W_orE, W_notE, W_chainE, W_addI, W_subI, W_mulI, W_divI, W_modI, W_negI, W_ltI, W_leI, W_gtI, W_geI, W_eqA, W_neA, W_inL, W_ninL, W_isNo, W_notNo, W_anyL, W_allL, W_sumL, W_lenL, W_min2, W_max2, W_intB, W_idxL, W_sizeL, W_catL, W_rng, W_addT, W_idxT, W_cutT, W_lenT, W_ltT, W_lcE, W_eqD, W_neD, W_inD, W_ninD, asT_enc, okD_enc, Bool.and_self, decide_eq_true_eq, Bool.not_eq_true', decide_eq_false_iff_not, true_and, and_true, if_true, if_false, Bool.false_eq_true, Bool.not_true, Bool.not_false, putB, putC, putN]
    refine ⟨?_, ⟨pre ++ [x], p, f, rfl, ?_, by omega, gp, ?_⟩, ?_⟩
    · rw [List.length_append, List.length_singleton]; omega
    · rw [← h1', List.append_assoc]; rfl
    · rw [List.length_append, List.length_singleton]; omega
    · rw [List.length_append, List.length_append, List.length_singleton, List.length_singleton]
      omega
def marksOf (U : UD) (M : MD) (n : Str) : Bool := (chF U 8 n).any fun x => (M.get x).getD false
theorem awake_ok (I : GI U M dep) (e : GAt w h U M) {n : Str} (g : IsG U n) : Groups_awake (h, n, ()) w = .ok (!marksOf U M n) := by
  have e0 := e
  have sl := sizeLn_eq
  have e : w[h.i]? = some (.Groups (some U) (some M)) := e
  have hd : dep n ≤ 8 := by
    obtain ⟨u, hu⟩ := g
    exact (I.up n u hu).2.1
  obtain ⟨c1, c2⟩ := chF_spec I 8 n g (by omega)
  apply eq_of_W
  unfold Groups_awake F_Groups_awake
  simp only [W_endF, W_endU, X_endX, X_endXU, W_asgX, W_dropX, W_retX, W_ifX, W_forX, X_ok, X_ex, X_liftX, X_xop1, X_xop2, X_xite, X_xand, X_xor, X_xnot, X_call, X_new, X_meth, X_mut, W_methR, W_isW, W_fldF, W_stoF, W_dputX, W_lputX, W_lInsert, W_lAppend, W_lExtend, W_lPopAt, W_lPop, W_dPop, W_dgetO, W_ltIS, W_isNU, W_notNU, W_raise, W_seq, W_asg, W_drop, W_ret, W_if, W_skip, W_brk, W_cnt, W_pre, W_for, W_app', W_retT', W_dget, W_din, W_dnin, W_dlen, W_dkeys, W_dput', W_clear', W_try, W_tryGo, W_asSu, W_isX, W_nameX, W_startsT, W_strI, W_andI, W_orI, W_xorI, W_shlI, W_dmodI, W_bitsI, X_box, W_forK, W_eqK, W_dclear', W_rtN, W_ok, W_ex, W_bind, W_ofO, W_chk, W_op1, W_op2, W_op3, W_iteE, W_andE, W_orE, W_notE, W_chainE, W_addI, W_subI, W_mulI, W_divI, W_modI, W_negI, W_ltI, W_leI, W_gtI, W_geI, W_eqA, W_neA, W_inL, W_ninL, W_isNo, W_notNo, W_anyL, W_allL, W_sumL, W_lenL, W_min2, W_max2, W_intB, W_idxL, W_sizeL, W_catL, W_rng, W_addT, W_idxT, W_cutT, W_lenT, W_ltT, W_lcE, W_eqD, W_neD, W_inD, W_ninD, asT_enc, okD_enc, Bool.and_self, decide_eq_true_eq, Bool.not_eq_true', decide_eq_false_iff_not, true_and, and_true, if_true, if_false, Bool.false_eq_true, Bool.not_true, Bool.not_false, putB, putC, putN, gw_Groups_awake]
  refine ⟨_, e0.row _, ?_⟩
  rw [chain_ok I e0 g]
  simp only [W_endF, W_endU, X_endX, X_endXU, W_asgX, W_dropX, W_retX, W_ifX, W_forX, X_ok, X_ex, X_liftX, X_xop1, X_xop2, X_xite, X_xand, X_xor, X_xnot, X_call, X_new, X_meth, X_mut, W_methR, W_isW, W_fldF, W_stoF, W_dputX, W_lputX, W_lInsert, W_lAppend, W_lExtend, W_lPopAt, W_lPop, W_dPop, W_dgetO, W_ltIS, W_isNU, W_notNU, W_raise, W_seq, W_asg, W_drop, W_ret, W_if, W_skip, W_brk, W_cnt, W_pre, W_for, W_app', W_retT', W_dget, W_din, W_dnin, W_dlen, W_dkeys, W_dput', W_clear', W_try, W_tryGo, W_asSu, W_isX, W_nameX, W_startsT, W_strI, W_andI, W_orI, W_xorI, W_shlI, W_dmodI, W_bitsI, X_box, W_forK, W_eqK, W_dclear', W_rtN, W_ok, W_ex, W_bind, W_ofO, W_chk, W_op1, W_op2, W_op3, W_iteE, W_andE, W_orE, W_notE, W_chainE, W_addI, W_subI, W_mulI, W_divI, W_modI, W_negI, W_ltI, W_leI, W_gtI, W_geI, W_eqA, W_neA, W_inL, W_ninL, W_isNo, W_notNo, W_anyL, W_allL, W_sumL, W_lenL, W_min2, W_max2, W_intB, W_idxL, W_sizeL, W_catL, W_rng, W_addT, W_idxT, W_cutT, W_lenT, W_ltT, W_lcE, W_eqD, W_neD, W_inD, W_ninD, asT_enc, okD_enc, Bool.and_self, decide_eq_true_eq, Bool.not_eq_true', decide_eq_false_iff_not, true_and, and_true, if_true, if_false, Bool.false_eq_true, Bool.not_true, Bool.not_false, putB, putC, putN]
  refine W_lcR (fun _ => true) (fun x => (M.get x).getD false) (fun _ _ => by simp only [W_endF, W_endU, X_endX, X_endXU, W_asgX, W_dropX, W_retX, W_ifX, W_forX, X_ok, X_ex, X_liftX, X_xop1, X_xop2, X_xite, X_xand, X_xor, X_xnot, X_call, X_new, X_meth, X_mut, W_methR, W_isW, W_fldF, W_stoF, W_dputX, W_lputX, W_lInsert, W_lAppend, W_lExtend, W_lPopAt, W_lPop, W_dPop, W_dgetO, W_ltIS, W_isNU, W_notNU, W_raise, W_seq, W_asg, W_drop, W_ret, W_if, W_skip, W_brk, W_cnt, W_pre, W_for, W_app', W_retT', W_dget, W_din, W_dnin, W_dlen, W_dkeys, W_dput', W_clear', W_try, W_tryGo, W_asSu, W_isX, W_nameX, W_startsT, W_strI, W_andI, W_orI, W_xorI, W_shlI, W_dmodI, W_bitsI, X_box, W_forK, W_eqK, W_dclear', W_rtN, W_ok, W_ex, W_bind, W_ofO, W_chk, W_op1, W_op2, W_op3, W_iteE, W_andE, W_orE, W_notE, W_chainE, W_addI, W_subI, W_mulI, W_divI, W_modI, W_negI, W_ltI, W_leI, W_gtI, W_geI, W_eqA, W_neA, W_inL, W_ninL, W_isNo, W_notNo, W_anyL, W_allL, W_sumL, W_lenL, W_min2, W_max2, W_intB, W_idxL, W_sizeL, W_catL, W_rng, W_addT, W_idxT, W_cutT, W_lenT, W_ltT, W_lcE, W_eqD, W_neD, W_inD, W_ninD, asT_enc, okD_enc, Bool.and_self, decide_eq_true_eq, Bool.not_eq_true', decide_eq_false_iff_not, true_and, and_true, if_true, if_false, Bool.false_eq_true, Bool.not_true, Bool.not_false, putB, putC, putN]) (fun x hx _ => ?_) ?_
  · obtain ⟨b, hb⟩ := I.mark (c2 x hx)
    simp only [W_endF, W_endU, X_endX, X_endXU, W_asgX, W_dropX, W_retX, W_ifX, W_forX, X_ok, X_ex, X_liftX, X_xop1, X_xop2, X_xite, X_xand, X_xor, X_xnot, X_call, X_new, X_meth, X_mut, W_methR, W_isW, W_fldF, W_stoF, W_dputX, W_lputX, W_lInsert, W_lAppend, W_lExtend, W_lPopAt, W_lPop, W_dPop, W_dgetO, W_ltIS, W_isNU, W_notNU, W_raise, W_seq, W_asg, W_drop, W_ret, W_if, W_skip, W_brk, W_cnt, W_pre, W_for, W_app', W_retT', W_dget, W_din, W_dnin, W_dlen, W_dkeys, W_dput', W_clear', W_try, W_tryGo, W_asSu, W_isX, W_nameX, W_startsT, W_strI, W_andI, W_orI, W_xorI, W_shlI, W_dmodI, W_bitsI, X_box, W_forK, W_eqK, W_dclear', W_rtN, W_ok, W_ex, W_bind, W_ofO, W_chk, W_op1, W_op2, W_op3, W_iteE, W_andE, W_orE, W_notE, W_chainE, W_addI, W_subI, W_mulI, W_divI, W_modI, W_negI, W_ltI, W_leI, W_gtI, W_geI, W_eqA, W_neA, W_inL, W_ninL, W_isNo, W_notNo, W_anyL, W_allL, W_sumL, W_lenL, W_min2, W_max2, W_intB, W_idxL, W_sizeL, W_catL, W_rng, W_addT, W_idxT, W_cutT, W_lenT, W_ltT, W_lcE, W_eqD, W_neD, W_inD, W_ninD, asT_enc, okD_enc, Bool.and_self, decide_eq_true_eq, Bool.not_eq_true', decide_eq_false_iff_not, true_and, and_true, if_true, if_false, Bool.false_eq_true, Bool.not_true, Bool.not_false, putB, putC, putN, e, Option.bind_some, Wo.get_marks]
    exact ⟨M, rfl, b, hb, by rw [hb]; rfl⟩
  · rw [List.filter_eq_self.mpr fun _ _ => rfl]
    refine ⟨by rw [List.length_map]; omega, ?_⟩
    unfold marksOf
    rw [List.any_map]
    rfl
theorem marked_ok (I : GI U M dep) (e : GAt w h U M) {n : Str} (g : IsG U n) : Groups_marked (h, n, ()) w = .ok ((M.get n).getD false) := by
  have e0 := e
  have e : w[h.i]? = some (.Groups (some U) (some M)) := e
  apply eq_of_W
  unfold Groups_marked F_Groups_marked
  simp only [W_endF, W_endU, X_endX, X_endXU, W_asgX, W_dropX, W_retX, W_ifX, W_forX, X_ok, X_ex, X_liftX, X_xop1, X_xop2, X_xite, X_xand, X_xor, X_xnot, X_call, X_new, X_meth, X_mut, W_methR, W_isW, W_fldF, W_stoF, W_dputX, W_lputX, W_lInsert, W_lAppend, W_lExtend, W_lPopAt, W_lPop, W_dPop, W_dgetO, W_ltIS, W_isNU, W_notNU, W_raise, W_seq, W_asg, W_drop, W_ret, W_if, W_skip, W_brk, W_cnt, W_pre, W_for, W_app', W_retT', W_dget, W_din, W_dnin, W_dlen, W_dkeys, W_dput', W_clear', W_try, W_tryGo, W_asSu, W_isX, W_nameX, W_startsT, W_strI, W_andI, W_orI, W_xorI, W_shlI, W_dmodI, W_bitsI, X_box, W_forK, W_eqK, W_dclear', W_rtN, W_ok, W_ex, W_bind, W_ofO, W_chk, W_op1, W_op2, W_op3, W_iteE, W_andE, W_orE, W_notE, W_chainE, W_addI, W_subI, W_mulI, W_divI, W_modI, W_negI, W_ltI, W_leI, W_gtI, W_geI, W_eqA, W_neA, W_inL, W_ninL, W_isNo, W_notNo, W_anyL, W_allL, W_sumL, W_lenL, W_min2, W_max2, W_intB, W_idxL, W_sizeL, W_catL, W_rng, W_addT, W_idxT, W_cutT, W_lenT, W_ltT, W_lcE, W_eqD, W_neD, W_inD, W_ninD, asT_enc, okD_enc, Bool.and_self, decide_eq_true_eq, Bool.not_eq_true', decide_eq_false_iff_not, true_and, and_true, if_true, if_false, Bool.false_eq_true, Bool.not_true, Bool.not_false, putB, putC, putN, gw_Groups_marked]
  refine ⟨_, e0.row _, ?_⟩
  rw [sure_ok e0 g]
  simp only [W_endF, W_endU, X_endX, X_endXU, W_asgX, W_dropX, W_retX, W_ifX, W_forX, X_ok, X_ex, X_liftX, X_xop1, X_xop2, X_xite, X_xand, X_xor, X_xnot, X_call, X_new, X_meth, X_mut, W_methR, W_isW, W_fldF, W_stoF, W_dputX, W_lputX, W_lInsert, W_lAppend, W_lExtend, W_lPopAt, W_lPop, W_dPop, W_dgetO, W_ltIS, W_isNU, W_notNU, W_raise, W_seq, W_asg, W_drop, W_ret, W_if, W_skip, W_brk, W_cnt, W_pre, W_for, W_app', W_retT', W_dget, W_din, W_dnin, W_dlen, W_dkeys, W_dput', W_clear', W_try, W_tryGo, W_asSu, W_isX, W_nameX, W_startsT, W_strI, W_andI, W_orI, W_xorI, W_shlI, W_dmodI, W_bitsI, X_box, W_forK, W_eqK, W_dclear', W_rtN, W_ok, W_ex, W_bind, W_ofO, W_chk, W_op1, W_op2, W_op3, W_iteE, W_andE, W_orE, W_notE, W_chainE, W_addI, W_subI, W_mulI, W_divI, W_modI, W_negI, W_ltI, W_leI, W_gtI, W_geI, W_eqA, W_neA, W_inL, W_ninL, W_isNo, W_notNo, W_anyL, W_allL, W_sumL, W_lenL, W_min2, W_max2, W_intB, W_idxL, W_sizeL, W_catL, W_rng, W_addT, W_idxT, W_cutT, W_lenT, W_ltT, W_lcE, W_eqD, W_neD, W_inD, W_ninD, asT_enc, okD_enc, Bool.and_self, decide_eq_true_eq, Bool.not_eq_true', decide_eq_false_iff_not, true_and, and_true, if_true, if_false, Bool.false_eq_true, Bool.not_true, Bool.not_false, putB, putC, putN, e, Option.bind_some, Wo.get_marks]
  obtain ⟨b, hb⟩ := I.mark g
  exact ⟨M, rfl, b, hb, by rw [hb]; rfl⟩
/-! so many steps up -/
def upn (U : UD) : Nat → Str → Option Str
  | 0, x => some x
  | k + 1, x => match U.get x with
    | some (some p) => upn U k p
    | _ => none
theorem upn_dep (I : GI U M dep) : ∀ {k : Nat} {x a : Str}, IsG U x → upn U k x = some a → IsG U a ∧ dep x = dep a + k
  | 0, x, a, g, e => by cases e; exact ⟨g, rfl⟩
  | k + 1, x, a, g, e => by
    obtain ⟨u, hu⟩ := g
    unfold upn at e
    rw [hu] at e
    cases u with
    | none => cases e
    | some p =>
      obtain ⟨gp, hp⟩ := (I.up x _ hu).2.2.2 p rfl
      obtain ⟨i1, i2⟩ := upn_dep I gp e
      exact ⟨i1, by omega⟩
theorem upn_snoc {n : Str} : ∀ {k : Nat} {x : Str}, upn U (k + 1) x = some n ↔ ∃ c, upn U k x = some c ∧ U.get c = some (some n)
  | 0, x => by
    unfold upn upn
    cases e : U.get x with
    | none => simp [e]
    | some u =>
      cases u with
      | none => simp [e]
      | some p => simp [e]
  | k + 1, x => by
    conv => lhs; unfold upn
    conv => rhs; unfold upn
    cases e : U.get x with
    | none => simp
    | some u =>
      cases u with
      | none => simp
      | some p => exact upn_snoc
theorem nodup_le : ∀ {l m : List Str}, l.Nodup → (∀ x ∈ l, x ∈ m) → l.length ≤ m.length
  | [], _, _, _ => Nat.zero_le _
  | x :: l, m, nd, h => by
    rw [List.nodup_cons] at nd
    have hx : x ∈ m := h x List.mem_cons_self
    have := nodup_le (l := l) (m := m.erase x) nd.2 fun y hy => (List.mem_erase_of_ne fun (e : y = x) => nd.1 (e ▸ hy)).mpr (h y (List.mem_cons_of_mem _ hy))
    rw [List.length_erase_of_mem hx] at this
    have hp : 0 < m.length := List.length_pos_iff.mpr fun z => by rw [z] at hx; cases hx
    rw [List.length_cons]
    omega
def GaV (U : UD) (n : Str) (l : List Str) : Prop := l.Nodup ∧ ∀ x, x ∈ l ↔ IsG U x ∧ ∃ k, upn U k x = some n
theorem GaV.len (I : GI U M dep) {n : Str} {l : List Str} (v : GaV U n l) : l.length ≤ 1000 := by
  have := nodup_le v.1 fun x hx => isG_key.mp ((v.2 x).mp hx).1
  have := I.len
  simp only [List.length_map] at *
  omega
theorem gathered_ok (I : GI U M dep) (e : GAt w h U M) : ∀ (f : Nat) {n : Str}, IsG U n → 9 ≤ dep n + f → ∃ l, Groups_gathered_f f (h, n, ()) w = .ok l ∧ GaV U n l
  | 0, n, g, hf => by
    obtain ⟨u, hu⟩ := g
    have := (I.up n u hu).2.1
    omega
  | f + 1, n, g, hf => by
    have e0 := e
    have sl := sizeLn_eq
    have e : w[h.i]? = some (.Groups (some U) (some M)) := e
    apply ok_of_W
    show (endF (F_Groups_gathered (Groups_gathered_f f) (some h, some n, none, none, none, none, w))).W _ _
    unfold F_Groups_gathered
    simp only [W_endF, W_endU, X_endX, X_endXU, W_asgX, W_dropX, W_retX, W_ifX, W_forX, X_ok, X_ex, X_liftX, X_xop1, X_xop2, X_xite, X_xand, X_xor, X_xnot, X_call, X_new, X_meth, X_mut, W_methR, W_isW, W_fldF, W_stoF, W_dputX, W_lputX, W_lInsert, W_lAppend, W_lExtend, W_lPopAt, W_lPop, W_dPop, W_dgetO, W_ltIS, W_isNU, W_notNU, W_raise, W_seq, W_asg, W_drop, W_ret, W_if, W_skip, W_brk, W_cnt, W_pre, W_for, W_app', W_retT', W_dget, W_din, W_dnin, W_dlen, W_dkeys, W_dput', W_clear', W_try, W_tryGo, W_asSu, W_isX, W_nameX, W_startsT, W_strI, W_andI, W_orI, W_xorI, W_shlI, W_dmodI, W_bitsI, X_box, W_forK, W_eqK, W_dclear', W_rtN, W_ok, W_ex, W_bind, W_ofO, W_chk, W_op1, W_op2, W_op3, W_iteE, W_andE, W_orE, W_notE, W_chainE, W_addI, W_subI, W_mulI, W_divI, W_modI, W_negI, W_ltI, W_leI, W_gtI, W_geI, W_eqA, W_neA, W_inL, W_ninL, W_isNo, W_notNo, W_anyL, W_allL, W_sumL, W_lenL, W_min2, W_max2, W_intB, W_idxL, W_sizeL, W_catL, W_rng, W_addT, W_idxT, W_cutT, W_lenT, W_ltT, W_lcE, W_eqD, W_neD, W_inD, W_ninD, asT_enc, okD_enc, Bool.and_self, decide_eq_true_eq, Bool.not_eq_true', decide_eq_false_iff_not, true_and, and_true, if_true, if_false, Bool.false_eq_true, Bool.not_true, Bool.not_false, putB, putC, putN, gw_Groups_gathered, e, Option.bind_some, Wo.get_uppers]
    intro v hv
    refine ⟨U, rfl, ?_⟩
    refine W_loop (fun (pre : List (T2 Str (Option Str))) (t : T_Groups_gathered) => ∃ (found : List Str) (a : Option Str) (b : Option (Option Str)), t = (some h, some n, some found, none, a, b, w) ∧ found.Nodup ∧ ∀ x, x ∈ found ↔ x = n ∨ IsG U x ∧ ∃ c ∈ pre, c.b = some n ∧ ∃ k, upn U k x = some c.a) (U.kvs.map fun kv => (⟨kv.1, kv.2⟩ : T2 Str (Option Str))) [] _ ⟨[n], none, none, by rw [hv], by simp, fun x => by simp⟩ (fun pre y post t he ⟨found, a, b, et, nd, hm⟩ => ?_) (fun t ⟨found, a, b, et, nd, hm⟩ => ?_)
    · subst et
      have hall : U.kvs.map (fun kv => (⟨kv.1, kv.2⟩ : T2 Str (Option Str))) = pre ++ y :: post := by rw [he]; rfl
      have hkeys : U.kvs.map (·.1) = pre.map (·.a) ++ y.a :: post.map (·.a) := by
        have := congrArg (List.map T2.a) hall
        rw [List.map_map, List.map_append, List.map_cons] at this
        exact this
      have getq : ∀ c ∈ pre ++ y :: post, U.get c.a = some c.b := fun c hc => by
        rw [← hall] at hc
        obtain ⟨kv, hk, rfl⟩ := List.mem_map.mp hc
        exact getK_of I.nd hk
      have gy : U.get y.a = some y.b := getq y (by simp)
      obtain ⟨o, ab⟩ := y
      simp only [W_endF, W_endU, X_endX, X_endXU, W_asgX, W_dropX, W_retX, W_ifX, W_forX, X_ok, X_ex, X_liftX, X_xop1, X_xop2, X_xite, X_xand, X_xor, X_xnot, X_call, X_new, X_meth, X_mut, W_methR, W_isW, W_fldF, W_stoF, W_dputX, W_lputX, W_lInsert, W_lAppend, W_lExtend, W_lPopAt, W_lPop, W_dPop, W_dgetO, W_ltIS, W_isNU, W_notNU, W_raise, W_seq, W_asg, W_drop, W_ret, W_if, W_skip, W_brk, W_cnt, W_pre, W_for, W_app', W_retT', W_dget, W_din, W_dnin, W_dlen, W_dkeys, W_dput', W_clear', W_try, W_tryGo, W_asSu, W_isX, W_nameX, W_startsT, W_strI, W_andI, W_orI, W_xorI, W_shlI, W_dmodI, W_bitsI, X_box, W_forK, W_eqK, W_dclear', W_rtN, W_ok, W_ex, W_bind, W_ofO, W_chk, W_op1, W_op2, W_op3, W_iteE, W_andE, W_orE, W_notE, W_chainE, W_addI, W_subI, W_mulI, W_divI, W_modI, W_negI, W_ltI, W_leI, W_gtI, W_geI, W_eqA, W_neA, W_inL, W_ninL, W_isNo, W_notNo, W_anyL, W_allL, W_sumL, W_lenL, W_min2, W_max2, W_intB, W_idxL, W_sizeL, W_catL, W_rng, W_addT, W_idxT, W_cutT, W_lenT, W_ltT, W_lcE, W_eqD, W_neD, W_inD, W_ninD, asT_enc, okD_enc, Bool.and_self, decide_eq_true_eq, Bool.not_eq_true', decide_eq_false_iff_not, true_and, and_true, if_true, if_false, Bool.false_eq_true, Bool.not_true, Bool.not_false, putB, putC, putN]
      by_cases hab : ab = some n
      · rw [if_pos hab]
        subst hab
        have dy : dep o = dep n + 1 := ((I.up o _ gy).2.2.2 n rfl).2
        obtain ⟨l, el, v⟩ := gathered_ok I e0 f (n := o) ⟨_, gy⟩ (by omega)
        refine ⟨_, e0.row _, ?_⟩
        rw [el]
        simp only [W_endF, W_endU, X_endX, X_endXU, W_asgX, W_dropX, W_retX, W_ifX, W_forX, X_ok, X_ex, X_liftX, X_xop1, X_xop2, X_xite, X_xand, X_xor, X_xnot, X_call, X_new, X_meth, X_mut, W_methR, W_isW, W_fldF, W_stoF, W_dputX, W_lputX, W_lInsert, W_lAppend, W_lExtend, W_lPopAt, W_lPop, W_dPop, W_dgetO, W_ltIS, W_isNU, W_notNU, W_raise, W_seq, W_asg, W_drop, W_ret, W_if, W_skip, W_brk, W_cnt, W_pre, W_for, W_app', W_retT', W_dget, W_din, W_dnin, W_dlen, W_dkeys, W_dput', W_clear', W_try, W_tryGo, W_asSu, W_isX, W_nameX, W_startsT, W_strI, W_andI, W_orI, W_xorI, W_shlI, W_dmodI, W_bitsI, X_box, W_forK, W_eqK, W_dclear', W_rtN, W_ok, W_ex, W_bind, W_ofO, W_chk, W_op1, W_op2, W_op3, W_iteE, W_andE, W_orE, W_notE, W_chainE, W_addI, W_subI, W_mulI, W_divI, W_modI, W_negI, W_ltI, W_leI, W_gtI, W_geI, W_eqA, W_neA, W_inL, W_ninL, W_isNo, W_notNo, W_anyL, W_allL, W_sumL, W_lenL, W_min2, W_max2, W_intB, W_idxL, W_sizeL, W_catL, W_rng, W_addT, W_idxT, W_cutT, W_lenT, W_ltT, W_lcE, W_eqD, W_neD, W_inD, W_ninD, asT_enc, okD_enc, Bool.and_self, decide_eq_true_eq, Bool.not_eq_true', decide_eq_false_iff_not, true_and, and_true, if_true, if_false, Bool.false_eq_true, Bool.not_true, Bool.not_false, putB, putC, putN]
        have key : ∀ x, x ∈ found ++ l ↔ x = n ∨ IsG U x ∧ ∃ c ∈ pre ++ [⟨o, some n⟩], c.b = some n ∧ ∃ k, upn U k x = some c.a := fun x => by
          rw [List.mem_append, hm, v.2]
          constructor
          · rintro ((z | ⟨g1, c, hc, z⟩) | ⟨g1, z⟩)
            · exact .inl z
            · exact .inr ⟨g1, c, List.mem_append_left _ hc, z⟩
            · exact .inr ⟨g1, ⟨o, some n⟩, by simp, rfl, z⟩
          · rintro (z | ⟨g1, c, hc, z1, z2⟩)
            · exact .inl (.inl z)
            · rcases List.mem_append.mp hc with hc | hc
              · exact .inl (.inr ⟨g1, c, hc, z1, z2⟩)
              · rw [List.mem_singleton.mp hc] at z2
                exact .inr ⟨g1, z2⟩
        have nd2 : (found ++ l).Nodup := by
          refine List.nodup_append.mpr ⟨nd, v.1, fun x hx y hy exy => ?_⟩
          subst exy
          obtain ⟨g1, k, ek⟩ := (v.2 x).mp hy
          have dx := (upn_dep I g1 ek).2
          rcases (hm x).mp hx with rfl | ⟨_, c, hc, cb, k2, ek2⟩
          · omega
          · have gc : U.get c.a = some (some n) := by rw [getq c (by simp [hc]), cb]
            have dc : dep c.a = dep n + 1 := ((I.up _ _ gc).2.2.2 n rfl).2
            have dx2 := (upn_dep I g1 ek2).2
            have ekk : k = k2 := by omega
            subst ekk
            rw [ek] at ek2
            cases ek2
            have := I.nd
            rw [hkeys, List.nodup_append] at this
            exact this.2.2 c.a (List.mem_map.mpr ⟨c, hc, rfl⟩) c.a List.mem_cons_self rfl
        have hlen : (found ++ l).length ≤ 1000 := by
          have h1 := nodup_le nd2 (m := U.kvs.map (·.1)) fun x hx => by
            rcases (key x).mp hx with rfl | ⟨g1, _⟩
            · exact isG_key.mp g
            · exact isG_key.mp g1
          have := I.len
          rw [List.length_map] at h1
          omega
        refine ⟨by rw [List.length_append] at hlen; omega, found ++ l, some o, some (some n), rfl, nd2, key⟩
      · rw [if_neg hab]
        refine ⟨found, some o, some ab, rfl, nd, fun x => ?_⟩
        rw [hm]
        constructor
        · rintro (z | ⟨g1, c, hc, z⟩)
          · exact .inl z
          · exact .inr ⟨g1, c, List.mem_append_left _ hc, z⟩
        · rintro (z | ⟨g1, c, hc, z1, z2⟩)
          · exact .inl z
          · rcases List.mem_append.mp hc with hc | hc
            · exact .inr ⟨g1, c, hc, z1, z2⟩
            · rw [List.mem_singleton.mp hc] at z1
              exact absurd z1 hab
    · subst et
      simp only [W_endF, W_endU, X_endX, X_endXU, W_asgX, W_dropX, W_retX, W_ifX, W_forX, X_ok, X_ex, X_liftX, X_xop1, X_xop2, X_xite, X_xand, X_xor, X_xnot, X_call, X_new, X_meth, X_mut, W_methR, W_isW, W_fldF, W_stoF, W_dputX, W_lputX, W_lInsert, W_lAppend, W_lExtend, W_lPopAt, W_lPop, W_dPop, W_dgetO, W_ltIS, W_isNU, W_notNU, W_raise, W_seq, W_asg, W_drop, W_ret, W_if, W_skip, W_brk, W_cnt, W_pre, W_for, W_app', W_retT', W_dget, W_din, W_dnin, W_dlen, W_dkeys, W_dput', W_clear', W_try, W_tryGo, W_asSu, W_isX, W_nameX, W_startsT, W_strI, W_andI, W_orI, W_xorI, W_shlI, W_dmodI, W_bitsI, X_box, W_forK, W_eqK, W_dclear', W_rtN, W_ok, W_ex, W_bind, W_ofO, W_chk, W_op1, W_op2, W_op3, W_iteE, W_andE, W_orE, W_notE, W_chainE, W_addI, W_subI, W_mulI, W_divI, W_modI, W_negI, W_ltI, W_leI, W_gtI, W_geI, W_eqA, W_neA, W_inL, W_ninL, W_isNo, W_notNo, W_anyL, W_allL, W_sumL, W_lenL, W_min2, W_max2, W_intB, W_idxL, W_sizeL, W_catL, W_rng, W_addT, W_idxT, W_cutT, W_lenT, W_ltT, W_lcE, W_eqD, W_neD, W_inD, W_ninD, asT_enc, okD_enc, Bool.and_self, decide_eq_true_eq, Bool.not_eq_true', decide_eq_false_iff_not, true_and, and_true, if_true, if_false, Bool.false_eq_true, Bool.not_true, Bool.not_false, putB, putC, putN]
      refine ⟨nd, fun x => ?_⟩
      rw [hm]
      constructor
      · rintro (rfl | ⟨g1, c, hc, cb, k, ek⟩)
        · exact ⟨g, 0, rfl⟩
        · refine ⟨g1, k + 1, upn_snoc.mpr ⟨c.a, ek, ?_⟩⟩
          rw [List.nil_append] at hc
          obtain ⟨kv, hk, rfl⟩ := List.mem_map.mp hc
          rw [← cb]
          exact getK_of I.nd hk
      · rintro ⟨g1, k, ek⟩
        cases k with
        | zero => cases ek; exact .inl rfl
        | succ k =>
          obtain ⟨c, hc, hu⟩ := upn_snoc.mp ek
          refine .inr ⟨g1, ⟨c, some n⟩, ?_, rfl, k, hc⟩
          rw [List.nil_append]
          exact List.mem_map.mpr ⟨(c, some n), getK_mem hu, rfl⟩
theorem within_ok (I : GI U M dep) (e : GAt w h U M) {n : Str} (g : IsG U n) : ∃ l, Groups_within (h, n, ()) w = .ok (sortL l) ∧ GaV U n l := by
  obtain ⟨l, el, v⟩ := gathered_ok I e 12 g (by omega)
  refine ⟨l, ?_, v⟩
  apply eq_of_W
  unfold Groups_within F_Groups_within
  simp only [W_endF, W_endU, X_endX, X_endXU, W_asgX, W_dropX, W_retX, W_ifX, W_forX, X_ok, X_ex, X_liftX, X_xop1, X_xop2, X_xite, X_xand, X_xor, X_xnot, X_call, X_new, X_meth, X_mut, W_methR, W_isW, W_fldF, W_stoF, W_dputX, W_lputX, W_lInsert, W_lAppend, W_lExtend, W_lPopAt, W_lPop, W_dPop, W_dgetO, W_ltIS, W_isNU, W_notNU, W_raise, W_seq, W_asg, W_drop, W_ret, W_if, W_skip, W_brk, W_cnt, W_pre, W_for, W_app', W_retT', W_dget, W_din, W_dnin, W_dlen, W_dkeys, W_dput', W_clear', W_try, W_tryGo, W_asSu, W_isX, W_nameX, W_startsT, W_strI, W_andI, W_orI, W_xorI, W_shlI, W_dmodI, W_bitsI, X_box, W_forK, W_eqK, W_dclear', W_rtN, W_ok, W_ex, W_bind, W_ofO, W_chk, W_op1, W_op2, W_op3, W_iteE, W_andE, W_orE, W_notE, W_chainE, W_addI, W_subI, W_mulI, W_divI, W_modI, W_negI, W_ltI, W_leI, W_gtI, W_geI, W_eqA, W_neA, W_inL, W_ninL, W_isNo, W_notNo, W_anyL, W_allL, W_sumL, W_lenL, W_min2, W_max2, W_intB, W_idxL, W_sizeL, W_catL, W_rng, W_addT, W_idxT, W_cutT, W_lenT, W_ltT, W_lcE, W_eqD, W_neD, W_inD, W_ninD, asT_enc, okD_enc, Bool.and_self, decide_eq_true_eq, Bool.not_eq_true', decide_eq_false_iff_not, true_and, and_true, if_true, if_false, Bool.false_eq_true, Bool.not_true, Bool.not_false, putB, putC, putN, gw_Groups_within]
  refine ⟨_, e.row _, ?_⟩
  rw [sure_ok e g]
  simp only [W_endF, W_endU, X_endX, X_endXU, W_asgX, W_dropX, W_retX, W_ifX, W_forX, X_ok, X_ex, X_liftX, X_xop1, X_xop2, X_xite, X_xand, X_xor, X_xnot, X_call, X_new, X_meth, X_mut, W_methR, W_isW, W_fldF, W_stoF, W_dputX, W_lputX, W_lInsert, W_lAppend, W_lExtend, W_lPopAt, W_lPop, W_dPop, W_dgetO, W_ltIS, W_isNU, W_notNU, W_raise, W_seq, W_asg, W_drop, W_ret, W_if, W_skip, W_brk, W_cnt, W_pre, W_for, W_app', W_retT', W_dget, W_din, W_dnin, W_dlen, W_dkeys, W_dput', W_clear', W_try, W_tryGo, W_asSu, W_isX, W_nameX, W_startsT, W_strI, W_andI, W_orI, W_xorI, W_shlI, W_dmodI, W_bitsI, X_box, W_forK, W_eqK, W_dclear', W_rtN, W_ok, W_ex, W_bind, W_ofO, W_chk, W_op1, W_op2, W_op3, W_iteE, W_andE, W_orE, W_notE, W_chainE, W_addI, W_subI, W_mulI, W_divI, W_modI, W_negI, W_ltI, W_leI, W_gtI, W_geI, W_eqA, W_neA, W_inL, W_ninL, W_isNo, W_notNo, W_anyL, W_allL, W_sumL, W_lenL, W_min2, W_max2, W_intB, W_idxL, W_sizeL, W_catL, W_rng, W_addT, W_idxT, W_cutT, W_lenT, W_ltT, W_lcE, W_eqD, W_neD, W_inD, W_ninD, asT_enc, okD_enc, Bool.and_self, decide_eq_true_eq, Bool.not_eq_true', decide_eq_false_iff_not, true_and, and_true, if_true, if_false, Bool.false_eq_true, Bool.not_true, Bool.not_false, putB, putC, putN]
  refine ⟨_, e.row _, ?_⟩
  rw [show Groups_gathered (h, n, ()) w = .ok l from el]
  rfl
end
theorem mem_sort {x : Str} {l : List Str} : x ∈ sortL l ↔ x ∈ l := (List.mergeSort_perm l _).mem_iff
theorem len_sort {l : List Str} : (sortL l).length = l.length := List.length_mergeSort l
section
variable {w : List Wo} {h : Hn} {U : UD} {M : MD} {dep : Str → Nat}
theorem GI.put (I : GI U M dep) {n : Str} (g : IsG U n) (b : Bool) : GI U (M.put n b) dep := ⟨I.nd, I.len, I.up, by
  rw [keys_put, if_pos (by rw [I.mks]; exact isG_key.mp g), I.mks]⟩
theorem GI.mlen (I : GI U M dep) : M.kvs.length = U.kvs.length := by
  have := congrArg List.length I.mks
  simpa using this
theorem put_mark_ok (I : GI U M dep) (e : GAt w h U M) {n : Str} (g : IsG U n) (b : Bool) : (Groups_put_mark (h, n, b, ()) w).W NoX2 fun _ w' => w' = w.set h.i (.Groups (some U) (some (M.put n b))) := by
  have e0 := e
  have sl := sizeLn_eq
  have e : w[h.i]? = some (.Groups (some U) (some M)) := e
  obtain ⟨l, el, v⟩ := within_ok I e0 g
  have hl := v.len I
  have hkey : ∀ x ∈ sortL l, IsG U x := fun x hx => ((v.2 x).mp (mem_sort.mp hx)).1
  unfold Groups_put_mark F_Groups_put_mark
  simp only [W_endF, W_endU, X_endX, X_endXU, W_asgX, W_dropX, W_retX, W_ifX, W_forX, X_ok, X_ex, X_liftX, X_xop1, X_xop2, X_xite, X_xand, X_xor, X_xnot, X_call, X_new, X_meth, X_mut, W_methR, W_isW, W_fldF, W_stoF, W_dputX, W_lputX, W_lInsert, W_lAppend, W_lExtend, W_lPopAt, W_lPop, W_dPop, W_dgetO, W_ltIS, W_isNU, W_notNU, W_raise, W_seq, W_asg, W_drop, W_ret, W_if, W_skip, W_brk, W_cnt, W_pre, W_for, W_app', W_retT', W_dget, W_din, W_dnin, W_dlen, W_dkeys, W_dput', W_clear', W_try, W_tryGo, W_asSu, W_isX, W_nameX, W_startsT, W_strI, W_andI, W_orI, W_xorI, W_shlI, W_dmodI, W_bitsI, X_box, W_forK, W_eqK, W_dclear', W_rtN, W_ok, W_ex, W_bind, W_ofO, W_chk, W_op1, W_op2, W_op3, W_iteE, W_andE, W_orE, W_notE, W_chainE, W_addI, W_subI, W_mulI, W_divI, W_modI, W_negI, W_ltI, W_leI, W_gtI, W_geI, W_eqA, W_neA, W_inL, W_ninL, W_isNo, W_notNo, W_anyL, W_allL, W_sumL, W_lenL, W_min2, W_max2, W_intB, W_idxL, W_sizeL, W_catL, W_rng, W_addT, W_idxT, W_cutT, W_lenT, W_ltT, W_lcE, W_eqD, W_neD, W_inD, W_ninD, asT_enc, okD_enc, Bool.and_self, decide_eq_true_eq, Bool.not_eq_true', decide_eq_false_iff_not, true_and, and_true, if_true, if_false, Bool.false_eq_true, Bool.not_true, Bool.not_false, putB, putC, putN, gw_Groups_put_mark, pw_Groups_put_mark]
  refine ⟨_, e0.row _, ?_⟩
  rw [el]
  simp only [W_endF, W_endU, X_endX, X_endXU, W_asgX, W_dropX, W_retX, W_ifX, W_forX, X_ok, X_ex, X_liftX, X_xop1, X_xop2, X_xite, X_xand, X_xor, X_xnot, X_call, X_new, X_meth, X_mut, W_methR, W_isW, W_fldF, W_stoF, W_dputX, W_lputX, W_lInsert, W_lAppend, W_lExtend, W_lPopAt, W_lPop, W_dPop, W_dgetO, W_ltIS, W_isNU, W_notNU, W_raise, W_seq, W_asg, W_drop, W_ret, W_if, W_skip, W_brk, W_cnt, W_pre, W_for, W_app', W_retT', W_dget, W_din, W_dnin, W_dlen, W_dkeys, W_dput', W_clear', W_try, W_tryGo, W_asSu, W_isX, W_nameX, W_startsT, W_strI, W_andI, W_orI, W_xorI, W_shlI, W_dmodI, W_bitsI, X_box, W_forK, W_eqK, W_dclear', W_rtN, W_ok, W_ex, W_bind, W_ofO, W_chk, W_op1, W_op2, W_op3, W_iteE, W_andE, W_orE, W_notE, W_chainE, W_addI, W_subI, W_mulI, W_divI, W_modI, W_negI, W_ltI, W_leI, W_gtI, W_geI, W_eqA, W_neA, W_inL, W_ninL, W_isNo, W_notNo, W_anyL, W_allL, W_sumL, W_lenL, W_min2, W_max2, W_intB, W_idxL, W_sizeL, W_catL, W_rng, W_addT, W_idxT, W_cutT, W_lenT, W_ltT, W_lcE, W_eqD, W_neD, W_inD, W_ninD, asT_enc, okD_enc, Bool.and_self, decide_eq_true_eq, Bool.not_eq_true', decide_eq_false_iff_not, true_and, and_true, if_true, if_false, Bool.false_eq_true, Bool.not_true, Bool.not_false, putB, putC, putN]
  intro inner hi
  subst hi
  refine W_lcR (fun x => !marksOf U M x) (fun x => x) (fun x hx => ?_) (fun x _ _ => by simp only [W_endF, W_endU, X_endX, X_endXU, W_asgX, W_dropX, W_retX, W_ifX, W_forX, X_ok, X_ex, X_liftX, X_xop1, X_xop2, X_xite, X_xand, X_xor, X_xnot, X_call, X_new, X_meth, X_mut, W_methR, W_isW, W_fldF, W_stoF, W_dputX, W_lputX, W_lInsert, W_lAppend, W_lExtend, W_lPopAt, W_lPop, W_dPop, W_dgetO, W_ltIS, W_isNU, W_notNU, W_raise, W_seq, W_asg, W_drop, W_ret, W_if, W_skip, W_brk, W_cnt, W_pre, W_for, W_app', W_retT', W_dget, W_din, W_dnin, W_dlen, W_dkeys, W_dput', W_clear', W_try, W_tryGo, W_asSu, W_isX, W_nameX, W_startsT, W_strI, W_andI, W_orI, W_xorI, W_shlI, W_dmodI, W_bitsI, X_box, W_forK, W_eqK, W_dclear', W_rtN, W_ok, W_ex, W_bind, W_ofO, W_chk, W_op1, W_op2, W_op3, W_iteE, W_andE, W_orE, W_notE, W_chainE, W_addI, W_subI, W_mulI, W_divI, W_modI, W_negI, W_ltI, W_leI, W_gtI, W_geI, W_eqA, W_neA, W_inL, W_ninL, W_isNo, W_notNo, W_anyL, W_allL, W_sumL, W_lenL, W_min2, W_max2, W_intB, W_idxL, W_sizeL, W_catL, W_rng, W_addT, W_idxT, W_cutT, W_lenT, W_ltT, W_lcE, W_eqD, W_neD, W_inD, W_ninD, asT_enc, okD_enc, Bool.and_self, decide_eq_true_eq, Bool.not_eq_true', decide_eq_false_iff_not, true_and, and_true, if_true, if_false, Bool.false_eq_true, Bool.not_true, Bool.not_false, putB, putC, putN]) ?_
  · simp only [W_endF, W_endU, X_endX, X_endXU, W_asgX, W_dropX, W_retX, W_ifX, W_forX, X_ok, X_ex, X_liftX, X_xop1, X_xop2, X_xite, X_xand, X_xor, X_xnot, X_call, X_new, X_meth, X_mut, W_methR, W_isW, W_fldF, W_stoF, W_dputX, W_lputX, W_lInsert, W_lAppend, W_lExtend, W_lPopAt, W_lPop, W_dPop, W_dgetO, W_ltIS, W_isNU, W_notNU, W_raise, W_seq, W_asg, W_drop, W_ret, W_if, W_skip, W_brk, W_cnt, W_pre, W_for, W_app', W_retT', W_dget, W_din, W_dnin, W_dlen, W_dkeys, W_dput', W_clear', W_try, W_tryGo, W_asSu, W_isX, W_nameX, W_startsT, W_strI, W_andI, W_orI, W_xorI, W_shlI, W_dmodI, W_bitsI, X_box, W_forK, W_eqK, W_dclear', W_rtN, W_ok, W_ex, W_bind, W_ofO, W_chk, W_op1, W_op2, W_op3, W_iteE, W_andE, W_orE, W_notE, W_chainE, W_addI, W_subI, W_mulI, W_divI, W_modI, W_negI, W_ltI, W_leI, W_gtI, W_geI, W_eqA, W_neA, W_inL, W_ninL, W_isNo, W_notNo, W_anyL, W_allL, W_sumL, W_lenL, W_min2, W_max2, W_intB, W_idxL, W_sizeL, W_catL, W_rng, W_addT, W_idxT, W_cutT, W_lenT, W_ltT, W_lcE, W_eqD, W_neD, W_inD, W_ninD, asT_enc, okD_enc, Bool.and_self, decide_eq_true_eq, Bool.not_eq_true', decide_eq_false_iff_not, true_and, and_true, if_true, if_false, Bool.false_eq_true, Bool.not_true, Bool.not_false, putB, putC, putN]
    refine ⟨_, e0.row _, ?_⟩
    rw [awake_ok I e0 (hkey x hx)]
    rfl
  · refine ⟨by
      rw [List.length_map]
      have := List.length_filter_le (fun x => !marksOf U M x) (sortL l)
      rw [len_sort] at this
      omega, fun ahead ha => ?_⟩
    simp only [W_endF, W_endU, X_endX, X_endXU, W_asgX, W_dropX, W_retX, W_ifX, W_forX, X_ok, X_ex, X_liftX, X_xop1, X_xop2, X_xite, X_xand, X_xor, X_xnot, X_call, X_new, X_meth, X_mut, W_methR, W_isW, W_fldF, W_stoF, W_dputX, W_lputX, W_lInsert, W_lAppend, W_lExtend, W_lPopAt, W_lPop, W_dPop, W_dgetO, W_ltIS, W_isNU, W_notNU, W_raise, W_seq, W_asg, W_drop, W_ret, W_if, W_skip, W_brk, W_cnt, W_pre, W_for, W_app', W_retT', W_dget, W_din, W_dnin, W_dlen, W_dkeys, W_dput', W_clear', W_try, W_tryGo, W_asSu, W_isX, W_nameX, W_startsT, W_strI, W_andI, W_orI, W_xorI, W_shlI, W_dmodI, W_bitsI, X_box, W_forK, W_eqK, W_dclear', W_rtN, W_ok, W_ex, W_bind, W_ofO, W_chk, W_op1, W_op2, W_op3, W_iteE, W_andE, W_orE, W_notE, W_chainE, W_addI, W_subI, W_mulI, W_divI, W_modI, W_negI, W_ltI, W_leI, W_gtI, W_geI, W_eqA, W_neA, W_inL, W_ninL, W_isNo, W_notNo, W_anyL, W_allL, W_sumL, W_lenL, W_min2, W_max2, W_intB, W_idxL, W_sizeL, W_catL, W_rng, W_addT, W_idxT, W_cutT, W_lenT, W_ltT, W_lcE, W_eqD, W_neD, W_inD, W_ninD, asT_enc, okD_enc, Bool.and_self, decide_eq_true_eq, Bool.not_eq_true', decide_eq_false_iff_not, true_and, and_true, if_true, if_false, Bool.false_eq_true, Bool.not_true, Bool.not_false, putB, putC, putN, e, Option.bind_some, Wo.get_marks, fldSet, ofO_some, Wo.put_marks]
    have hm := I.mlen
    have hu := I.len
    refine ⟨M, rfl, by omega, ?_⟩
    have I2 := I.put g b
    have e2 : GAt (w.set h.i (.Groups (some U) (some (M.put n b)))) h U (M.put n b) := set_get e
    refine W_lcR (fun x => decide (¬ (!marksOf U (M.put n b) x) = decide (x ∈ ahead))) (fun x => x) (fun x hx => ?_) (fun x _ _ => by simp only [W_endF, W_endU, X_endX, X_endXU, W_asgX, W_dropX, W_retX, W_ifX, W_forX, X_ok, X_ex, X_liftX, X_xop1, X_xop2, X_xite, X_xand, X_xor, X_xnot, X_call, X_new, X_meth, X_mut, W_methR, W_isW, W_fldF, W_stoF, W_dputX, W_lputX, W_lInsert, W_lAppend, W_lExtend, W_lPopAt, W_lPop, W_dPop, W_dgetO, W_ltIS, W_isNU, W_notNU, W_raise, W_seq, W_asg, W_drop, W_ret, W_if, W_skip, W_brk, W_cnt, W_pre, W_for, W_app', W_retT', W_dget, W_din, W_dnin, W_dlen, W_dkeys, W_dput', W_clear', W_try, W_tryGo, W_asSu, W_isX, W_nameX, W_startsT, W_strI, W_andI, W_orI, W_xorI, W_shlI, W_dmodI, W_bitsI, X_box, W_forK, W_eqK, W_dclear', W_rtN, W_ok, W_ex, W_bind, W_ofO, W_chk, W_op1, W_op2, W_op3, W_iteE, W_andE, W_orE, W_notE, W_chainE, W_addI, W_subI, W_mulI, W_divI, W_modI, W_negI, W_ltI, W_leI, W_gtI, W_geI, W_eqA, W_neA, W_inL, W_ninL, W_isNo, W_notNo, W_anyL, W_allL, W_sumL, W_lenL, W_min2, W_max2, W_intB, W_idxL, W_sizeL, W_catL, W_rng, W_addT, W_idxT, W_cutT, W_lenT, W_ltT, W_lcE, W_eqD, W_neD, W_inD, W_ninD, asT_enc, okD_enc, Bool.and_self, decide_eq_true_eq, Bool.not_eq_true', decide_eq_false_iff_not, true_and, and_true, if_true, if_false, Bool.false_eq_true, Bool.not_true, Bool.not_false, putB, putC, putN]) ?_
    · simp only [W_endF, W_endU, X_endX, X_endXU, W_asgX, W_dropX, W_retX, W_ifX, W_forX, X_ok, X_ex, X_liftX, X_xop1, X_xop2, X_xite, X_xand, X_xor, X_xnot, X_call, X_new, X_meth, X_mut, W_methR, W_isW, W_fldF, W_stoF, W_dputX, W_lputX, W_lInsert, W_lAppend, W_lExtend, W_lPopAt, W_lPop, W_dPop, W_dgetO, W_ltIS, W_isNU, W_notNU, W_raise, W_seq, W_asg, W_drop, W_ret, W_if, W_skip, W_brk, W_cnt, W_pre, W_for, W_app', W_retT', W_dget, W_din, W_dnin, W_dlen, W_dkeys, W_dput', W_clear', W_try, W_tryGo, W_asSu, W_isX, W_nameX, W_startsT, W_strI, W_andI, W_orI, W_xorI, W_shlI, W_dmodI, W_bitsI, X_box, W_forK, W_eqK, W_dclear', W_rtN, W_ok, W_ex, W_bind, W_ofO, W_chk, W_op1, W_op2, W_op3, W_iteE, W_andE, W_orE, W_notE, W_chainE, W_addI, W_subI, W_mulI, W_divI, W_modI, W_negI, W_ltI, W_leI, W_gtI, W_geI, W_eqA, W_neA, W_inL, W_ninL, W_isNo, W_notNo, W_anyL, W_allL, W_sumL, W_lenL, W_min2, W_max2, W_intB, W_idxL, W_sizeL, W_catL, W_rng, W_addT, W_idxT, W_cutT, W_lenT, W_ltT, W_lcE, W_eqD, W_neD, W_inD, W_ninD, asT_enc, okD_enc, Bool.and_self, decide_eq_true_eq, Bool.not_eq_true', decide_eq_false_iff_not, true_and, and_true, if_true, if_false, Bool.false_eq_true, Bool.not_true, Bool.not_false, putB, putC, putN]
      refine ⟨_, e2.row _, ?_⟩
      rw [awake_ok I2 e2 (hkey x hx)]
      simp only [W_endF, W_endU, X_endX, X_endXU, W_asgX, W_dropX, W_retX, W_ifX, W_forX, X_ok, X_ex, X_liftX, X_xop1, X_xop2, X_xite, X_xand, X_xor, X_xnot, X_call, X_new, X_meth, X_mut, W_methR, W_isW, W_fldF, W_stoF, W_dputX, W_lputX, W_lInsert, W_lAppend, W_lExtend, W_lPopAt, W_lPop, W_dPop, W_dgetO, W_ltIS, W_isNU, W_notNU, W_raise, W_seq, W_asg, W_drop, W_ret, W_if, W_skip, W_brk, W_cnt, W_pre, W_for, W_app', W_retT', W_dget, W_din, W_dnin, W_dlen, W_dkeys, W_dput', W_clear', W_try, W_tryGo, W_asSu, W_isX, W_nameX, W_startsT, W_strI, W_andI, W_orI, W_xorI, W_shlI, W_dmodI, W_bitsI, X_box, W_forK, W_eqK, W_dclear', W_rtN, W_ok, W_ex, W_bind, W_ofO, W_chk, W_op1, W_op2, W_op3, W_iteE, W_andE, W_orE, W_notE, W_chainE, W_addI, W_subI, W_mulI, W_divI, W_modI, W_negI, W_ltI, W_leI, W_gtI, W_geI, W_eqA, W_neA, W_inL, W_ninL, W_isNo, W_notNo, W_anyL, W_allL, W_sumL, W_lenL, W_min2, W_max2, W_intB, W_idxL, W_sizeL, W_catL, W_rng, W_addT, W_idxT, W_cutT, W_lenT, W_ltT, W_lcE, W_eqD, W_neD, W_inD, W_ninD, asT_enc, okD_enc, Bool.and_self, decide_eq_true_eq, Bool.not_eq_true', decide_eq_false_iff_not, true_and, and_true, if_true, if_false, Bool.false_eq_true, Bool.not_true, Bool.not_false, putB, putC, putN]
      by_cases h1 : x ∈ ahead <;> cases marksOf U (M.put n b) x <;> simp [h1]
    · refine ⟨?_, rfl⟩
      rw [List.length_map]
      have := List.length_filter_le (fun x => decide (¬ (!marksOf U (M.put n b) x) = decide (x ∈ ahead))) (sortL l)
      rw [len_sort] at this
      omega
theorem sleep_ok (I : GI U M dep) (e : GAt w h U M) {n : Str} (g : IsG U n) : (Groups_sleep (h, n, ()) w).W NoX2 fun _ w' => w' = w.set h.i (.Groups (some U) (some (M.put n true))) := by
  unfold Groups_sleep F_Groups_sleep
  simp only [W_endF, W_endU, X_endX, X_endXU, W_asgX, W_dropX, W_retX, W_ifX, W_forX, X_ok, X_ex, X_liftX, X_xop1, X_xop2, X_xite, X_xand, X_xor, X_xnot, X_call, X_new, X_meth, X_mut, W_methR, W_isW, W_fldF, W_stoF, W_dputX, W_lputX, W_lInsert, W_lAppend, W_lExtend, W_lPopAt, W_lPop, W_dPop, W_dgetO, W_ltIS, W_isNU, W_notNU, W_raise, W_seq, W_asg, W_drop, W_ret, W_if, W_skip, W_brk, W_cnt, W_pre, W_for, W_app', W_retT', W_dget, W_din, W_dnin, W_dlen, W_dkeys, W_dput', W_clear', W_try, W_tryGo, W_asSu, W_isX, W_nameX, W_startsT, W_strI, W_andI, W_orI, W_xorI, W_shlI, W_dmodI, W_bitsI, X_box, W_forK, W_eqK, W_dclear', W_rtN, W_ok, W_ex, W_bind, W_ofO, W_chk, W_op1, W_op2, W_op3, W_iteE, W_andE, W_orE, W_notE, W_chainE, W_addI, W_subI, W_mulI, W_divI, W_modI, W_negI, W_ltI, W_leI, W_gtI, W_geI, W_eqA, W_neA, W_inL, W_ninL, W_isNo, W_notNo, W_anyL, W_allL, W_sumL, W_lenL, W_min2, W_max2, W_intB, W_idxL, W_sizeL, W_catL, W_rng, W_addT, W_idxT, W_cutT, W_lenT, W_ltT, W_lcE, W_eqD, W_neD, W_inD, W_ninD, asT_enc, okD_enc, Bool.and_self, decide_eq_true_eq, Bool.not_eq_true', decide_eq_false_iff_not, true_and, and_true, if_true, if_false, Bool.false_eq_true, Bool.not_true, Bool.not_false, putB, putC, putN, gw_Groups_sleep, pw_Groups_sleep]
  exact ⟨_, e.row _, (put_mark_ok I e g true).to fun _ w' ew => ew⟩
theorem wake_ok (I : GI U M dep) (e : GAt w h U M) {n : Str} (g : IsG U n) : (Groups_wake (h, n, ()) w).W NoX2 fun _ w' => w' = w.set h.i (.Groups (some U) (some (M.put n false))) := by
  unfold Groups_wake F_Groups_wake
  simp only [W_endF, W_endU, X_endX, X_endXU, W_asgX, W_dropX, W_retX, W_ifX, W_forX, X_ok, X_ex, X_liftX, X_xop1, X_xop2, X_xite, X_xand, X_xor, X_xnot, X_call, X_new, X_meth, X_mut, W_methR, W_isW, W_fldF, W_stoF, W_dputX, W_lputX, W_lInsert, W_lAppend, W_lExtend, W_lPopAt, W_lPop, W_dPop, W_dgetO, W_ltIS, W_isNU, W_notNU, W_raise, W_seq, W_asg, W_drop, W_ret, W_if, W_skip, W_brk, W_cnt, W_pre, W_for, W_app', W_retT', W_dget, W_din, W_dnin, W_dlen, W_dkeys, W_dput', W_clear', W_try, W_tryGo, W_asSu, W_isX, W_nameX, W_startsT, W_strI, W_andI, W_orI, W_xorI, W_shlI, W_dmodI, W_bitsI, X_box, W_forK, W_eqK, W_dclear', W_rtN, W_ok, W_ex, W_bind, W_ofO, W_chk, W_op1, W_op2, W_op3, W_iteE, W_andE, W_orE, W_notE, W_chainE, W_addI, W_subI, W_mulI, W_divI, W_modI, W_negI, W_ltI, W_leI, W_gtI, W_geI, W_eqA, W_neA, W_inL, W_ninL, W_isNo, W_notNo, W_anyL, W_allL, W_sumL, W_lenL, W_min2, W_max2, W_intB, W_idxL, W_sizeL, W_catL, W_rng, W_addT, W_idxT, W_cutT, W_lenT, W_ltT, W_lcE, W_eqD, W_neD, W_inD, W_ninD, asT_enc, okD_enc, Bool.and_self, decide_eq_true_eq, Bool.not_eq_true', decide_eq_false_iff_not, true_and, and_true, if_true, if_false, Bool.false_eq_true, Bool.not_true, Bool.not_false, putB, putC, putN, gw_Groups_wake, pw_Groups_wake]
  exact ⟨_, e.row _, (put_mark_ok I e g false).to fun _ w' ew => ew⟩
def dpA (dep : Str → Nat) (a : Option Str) : Nat := match a with
  | none => 1
  | some p => dep p + 1
theorem not_key {n : Str} (g : ¬ IsG U n) : n ∉ U.kvs.map (·.1) := fun z => g (isG_key.mpr z)
theorem add_ok (I : GI U M dep) (e : GAt w h U M) {n : Str} (g : ¬ IsG U n) (a : Option Str) (ha : ∀ p, a = some p → IsG U p ∧ dep p ≤ 7) : (Groups_add (h, n, a, ()) w).W NoX2 fun _ w' => w' = w.set h.i (.Groups (some (U.put n a)) (some (M.put n false))) := by
  have e0 := e
  have sl := sizeLn_eq
  have e : w[h.i]? = some (.Groups (some U) (some M)) := e
  have hn : U.get n = none := by
    cases hx : U.get n with
    | none => rfl
    | some u => exact absurd ⟨u, hx⟩ g
  have hm := I.mlen
  have hu := I.len
  unfold Groups_add F_Groups_add
  simp only [W_endF, W_endU, X_endX, X_endXU, W_asgX, W_dropX, W_retX, W_ifX, W_forX, X_ok, X_ex, X_liftX, X_xop1, X_xop2, X_xite, X_xand, X_xor, X_xnot, X_call, X_new, X_meth, X_mut, W_methR, W_isW, W_fldF, W_stoF, W_dputX, W_lputX, W_lInsert, W_lAppend, W_lExtend, W_lPopAt, W_lPop, W_dPop, W_dgetO, W_ltIS, W_isNU, W_notNU, W_raise, W_seq, W_asg, W_drop, W_ret, W_if, W_skip, W_brk, W_cnt, W_pre, W_for, W_app', W_retT', W_dget, W_din, W_dnin, W_dlen, W_dkeys, W_dput', W_clear', W_try, W_tryGo, W_asSu, W_isX, W_nameX, W_startsT, W_strI, W_andI, W_orI, W_xorI, W_shlI, W_dmodI, W_bitsI, X_box, W_forK, W_eqK, W_dclear', W_rtN, W_ok, W_ex, W_bind, W_ofO, W_chk, W_op1, W_op2, W_op3, W_iteE, W_andE, W_orE, W_notE, W_chainE, W_addI, W_subI, W_mulI, W_divI, W_modI, W_negI, W_ltI, W_leI, W_gtI, W_geI, W_eqA, W_neA, W_inL, W_ninL, W_isNo, W_notNo, W_anyL, W_allL, W_sumL, W_lenL, W_min2, W_max2, W_intB, W_idxL, W_sizeL, W_catL, W_rng, W_addT, W_idxT, W_cutT, W_lenT, W_ltT, W_lcE, W_eqD, W_neD, W_inD, W_ninD, asT_enc, okD_enc, Bool.and_self, decide_eq_true_eq, Bool.not_eq_true', decide_eq_false_iff_not, true_and, and_true, if_true, if_false, Bool.false_eq_true, Bool.not_true, Bool.not_false, putB, putC, putN, gw_Groups_add, pw_Groups_add, e, Option.bind_some, Wo.get_uppers]
  refine ⟨U, rfl, ?_⟩
  rw [hn, if_neg (by simp)]
  have tail : ∀ (P : Prop), (U.kvs.length < sizeLn ∧ P) = P := fun P => propext ⟨fun z => z.2, fun z => ⟨by omega, z⟩⟩
  cases a with
  | none =>
    simp only [W_endF, W_endU, X_endX, X_endXU, W_asgX, W_dropX, W_retX, W_ifX, W_forX, X_ok, X_ex, X_liftX, X_xop1, X_xop2, X_xite, X_xand, X_xor, X_xnot, X_call, X_new, X_meth, X_mut, W_methR, W_isW, W_fldF, W_stoF, W_dputX, W_lputX, W_lInsert, W_lAppend, W_lExtend, W_lPopAt, W_lPop, W_dPop, W_dgetO, W_ltIS, W_isNU, W_notNU, W_raise, W_seq, W_asg, W_drop, W_ret, W_if, W_skip, W_brk, W_cnt, W_pre, W_for, W_app', W_retT', W_dget, W_din, W_dnin, W_dlen, W_dkeys, W_dput', W_clear', W_try, W_tryGo, W_asSu, W_isX, W_nameX, W_startsT, W_strI, W_andI, W_orI, W_xorI, W_shlI, W_dmodI, W_bitsI, X_box, W_forK, W_eqK, W_dclear', W_rtN, W_ok, W_ex, W_bind, W_ofO, W_chk, W_op1, W_op2, W_op3, W_iteE, W_andE, W_orE, W_notE, W_chainE, W_addI, W_subI, W_mulI, W_divI, W_modI, W_negI, W_ltI, W_leI, W_gtI, W_geI, W_eqA, W_neA, W_inL, W_ninL, W_isNo, W_notNo, W_anyL, W_allL, W_sumL, W_lenL, W_min2, W_max2, W_intB, W_idxL, W_sizeL, W_catL, W_rng, W_addT, W_idxT, W_cutT, W_lenT, W_ltT, W_lcE, W_eqD, W_neD, W_inD, W_ninD, asT_enc, okD_enc, Bool.and_self, decide_eq_true_eq, Bool.not_eq_true', decide_eq_false_iff_not, true_and, and_true, if_true, if_false, Bool.false_eq_true, Bool.not_true, Bool.not_false, putB, putC, putN, Option.isNone_none]
    rw [if_neg (by decide)]
    simp only [W_endF, W_endU, X_endX, X_endXU, W_asgX, W_dropX, W_retX, W_ifX, W_forX, X_ok, X_ex, X_liftX, X_xop1, X_xop2, X_xite, X_xand, X_xor, X_xnot, X_call, X_new, X_meth, X_mut, W_methR, W_isW, W_fldF, W_stoF, W_dputX, W_lputX, W_lInsert, W_lAppend, W_lExtend, W_lPopAt, W_lPop, W_dPop, W_dgetO, W_ltIS, W_isNU, W_notNU, W_raise, W_seq, W_asg, W_drop, W_ret, W_if, W_skip, W_brk, W_cnt, W_pre, W_for, W_app', W_retT', W_dget, W_din, W_dnin, W_dlen, W_dkeys, W_dput', W_clear', W_try, W_tryGo, W_asSu, W_isX, W_nameX, W_startsT, W_strI, W_andI, W_orI, W_xorI, W_shlI, W_dmodI, W_bitsI, X_box, W_forK, W_eqK, W_dclear', W_rtN, W_ok, W_ex, W_bind, W_ofO, W_chk, W_op1, W_op2, W_op3, W_iteE, W_andE, W_orE, W_notE, W_chainE, W_addI, W_subI, W_mulI, W_divI, W_modI, W_negI, W_ltI, W_leI, W_gtI, W_geI, W_eqA, W_neA, W_inL, W_ninL, W_isNo, W_notNo, W_anyL, W_allL, W_sumL, W_lenL, W_min2, W_max2, W_intB, W_idxL, W_sizeL, W_catL, W_rng, W_addT, W_idxT, W_cutT, W_lenT, W_ltT, W_lcE, W_eqD, W_neD, W_inD, W_ninD, asT_enc, okD_enc, Bool.and_self, decide_eq_true_eq, Bool.not_eq_true', decide_eq_false_iff_not, true_and, and_true, if_true, if_false, Bool.false_eq_true, Bool.not_true, Bool.not_false, putB, putC, putN, fldSet, ofO_some, Wo.put_uppers, e]
    simp only [W_endF, W_endU, X_endX, X_endXU, W_asgX, W_dropX, W_retX, W_ifX, W_forX, X_ok, X_ex, X_liftX, X_xop1, X_xop2, X_xite, X_xand, X_xor, X_xnot, X_call, X_new, X_meth, X_mut, W_methR, W_isW, W_fldF, W_stoF, W_dputX, W_lputX, W_lInsert, W_lAppend, W_lExtend, W_lPopAt, W_lPop, W_dPop, W_dgetO, W_ltIS, W_isNU, W_notNU, W_raise, W_seq, W_asg, W_drop, W_ret, W_if, W_skip, W_brk, W_cnt, W_pre, W_for, W_app', W_retT', W_dget, W_din, W_dnin, W_dlen, W_dkeys, W_dput', W_clear', W_try, W_tryGo, W_asSu, W_isX, W_nameX, W_startsT, W_strI, W_andI, W_orI, W_xorI, W_shlI, W_dmodI, W_bitsI, X_box, W_forK, W_eqK, W_dclear', W_rtN, W_ok, W_ex, W_bind, W_ofO, W_chk, W_op1, W_op2, W_op3, W_iteE, W_andE, W_orE, W_notE, W_chainE, W_addI, W_subI, W_mulI, W_divI, W_modI, W_negI, W_ltI, W_leI, W_gtI, W_geI, W_eqA, W_neA, W_inL, W_ninL, W_isNo, W_notNo, W_anyL, W_allL, W_sumL, W_lenL, W_min2, W_max2, W_intB, W_idxL, W_sizeL, W_catL, W_rng, W_addT, W_idxT, W_cutT, W_lenT, W_ltT, W_lcE, W_eqD, W_neD, W_inD, W_ninD, asT_enc, okD_enc, Bool.and_self, decide_eq_true_eq, Bool.not_eq_true', decide_eq_false_iff_not, true_and, and_true, if_true, if_false, Bool.false_eq_true, Bool.not_true, Bool.not_false, putB, putC, putN, set_get e, Option.bind_some, Wo.get_marks, Wo.put_marks]
    refine ⟨U, rfl, by omega, M, rfl, by omega, ?_⟩
    show (w.set h.i _).set h.i _ = _
    rw [List.set_set]
  | some p =>
    obtain ⟨gp, dp⟩ := ha p rfl
    obtain ⟨c1, _⟩ := chF_spec I 8 p gp (by omega)
    simp only [W_endF, W_endU, X_endX, X_endXU, W_asgX, W_dropX, W_retX, W_ifX, W_forX, X_ok, X_ex, X_liftX, X_xop1, X_xop2, X_xite, X_xand, X_xor, X_xnot, X_call, X_new, X_meth, X_mut, W_methR, W_isW, W_fldF, W_stoF, W_dputX, W_lputX, W_lInsert, W_lAppend, W_lExtend, W_lPopAt, W_lPop, W_dPop, W_dgetO, W_ltIS, W_isNU, W_notNU, W_raise, W_seq, W_asg, W_drop, W_ret, W_if, W_skip, W_brk, W_cnt, W_pre, W_for, W_app', W_retT', W_dget, W_din, W_dnin, W_dlen, W_dkeys, W_dput', W_clear', W_try, W_tryGo, W_asSu, W_isX, W_nameX, W_startsT, W_strI, W_andI, W_orI, W_xorI, W_shlI, W_dmodI, W_bitsI, X_box, W_forK, W_eqK, W_dclear', W_rtN, W_ok, W_ex, W_bind, W_ofO, W_chk, W_op1, W_op2, W_op3, W_iteE, W_andE, W_orE, W_notE, W_chainE, W_addI, W_subI, W_mulI, W_divI, W_modI, W_negI, W_ltI, W_leI, W_gtI, W_geI, W_eqA, W_neA, W_inL, W_ninL, W_isNo, W_notNo, W_anyL, W_allL, W_sumL, W_lenL, W_min2, W_max2, W_intB, W_idxL, W_sizeL, W_catL, W_rng, W_addT, W_idxT, W_cutT, W_lenT, W_ltT, W_lcE, W_eqD, W_neD, W_inD, W_ninD, asT_enc, okD_enc, Bool.and_self, decide_eq_true_eq, Bool.not_eq_true', decide_eq_false_iff_not, true_and, and_true, if_true, if_false, Bool.false_eq_true, Bool.not_true, Bool.not_false, putB, putC, putN, Option.isNone_some]
    refine ⟨_, e0.row _, ?_⟩
    rw [chain_ok I e0 gp]
    simp only [W_endF, W_endU, X_endX, X_endXU, W_asgX, W_dropX, W_retX, W_ifX, W_forX, X_ok, X_ex, X_liftX, X_xop1, X_xop2, X_xite, X_xand, X_xor, X_xnot, X_call, X_new, X_meth, X_mut, W_methR, W_isW, W_fldF, W_stoF, W_dputX, W_lputX, W_lInsert, W_lAppend, W_lExtend, W_lPopAt, W_lPop, W_dPop, W_dgetO, W_ltIS, W_isNU, W_notNU, W_raise, W_seq, W_asg, W_drop, W_ret, W_if, W_skip, W_brk, W_cnt, W_pre, W_for, W_app', W_retT', W_dget, W_din, W_dnin, W_dlen, W_dkeys, W_dput', W_clear', W_try, W_tryGo, W_asSu, W_isX, W_nameX, W_startsT, W_strI, W_andI, W_orI, W_xorI, W_shlI, W_dmodI, W_bitsI, X_box, W_forK, W_eqK, W_dclear', W_rtN, W_ok, W_ex, W_bind, W_ofO, W_chk, W_op1, W_op2, W_op3, W_iteE, W_andE, W_orE, W_notE, W_chainE, W_addI, W_subI, W_mulI, W_divI, W_modI, W_negI, W_ltI, W_leI, W_gtI, W_geI, W_eqA, W_neA, W_inL, W_ninL, W_isNo, W_notNo, W_anyL, W_allL, W_sumL, W_lenL, W_min2, W_max2, W_intB, W_idxL, W_sizeL, W_catL, W_rng, W_addT, W_idxT, W_cutT, W_lenT, W_ltT, W_lcE, W_eqD, W_neD, W_inD, W_ninD, asT_enc, okD_enc, Bool.and_self, decide_eq_true_eq, Bool.not_eq_true', decide_eq_false_iff_not, true_and, and_true, if_true, if_false, Bool.false_eq_true, Bool.not_true, Bool.not_false, putB, putC, putN]
    rw [if_neg (by omega)]
    simp only [W_endF, W_endU, X_endX, X_endXU, W_asgX, W_dropX, W_retX, W_ifX, W_forX, X_ok, X_ex, X_liftX, X_xop1, X_xop2, X_xite, X_xand, X_xor, X_xnot, X_call, X_new, X_meth, X_mut, W_methR, W_isW, W_fldF, W_stoF, W_dputX, W_lputX, W_lInsert, W_lAppend, W_lExtend, W_lPopAt, W_lPop, W_dPop, W_dgetO, W_ltIS, W_isNU, W_notNU, W_raise, W_seq, W_asg, W_drop, W_ret, W_if, W_skip, W_brk, W_cnt, W_pre, W_for, W_app', W_retT', W_dget, W_din, W_dnin, W_dlen, W_dkeys, W_dput', W_clear', W_try, W_tryGo, W_asSu, W_isX, W_nameX, W_startsT, W_strI, W_andI, W_orI, W_xorI, W_shlI, W_dmodI, W_bitsI, X_box, W_forK, W_eqK, W_dclear', W_rtN, W_ok, W_ex, W_bind, W_ofO, W_chk, W_op1, W_op2, W_op3, W_iteE, W_andE, W_orE, W_notE, W_chainE, W_addI, W_subI, W_mulI, W_divI, W_modI, W_negI, W_ltI, W_leI, W_gtI, W_geI, W_eqA, W_neA, W_inL, W_ninL, W_isNo, W_notNo, W_anyL, W_allL, W_sumL, W_lenL, W_min2, W_max2, W_intB, W_idxL, W_sizeL, W_catL, W_rng, W_addT, W_idxT, W_cutT, W_lenT, W_ltT, W_lcE, W_eqD, W_neD, W_inD, W_ninD, asT_enc, okD_enc, Bool.and_self, decide_eq_true_eq, Bool.not_eq_true', decide_eq_false_iff_not, true_and, and_true, if_true, if_false, Bool.false_eq_true, Bool.not_true, Bool.not_false, putB, putC, putN, fldSet, ofO_some, Wo.put_uppers, e]
    simp only [W_endF, W_endU, X_endX, X_endXU, W_asgX, W_dropX, W_retX, W_ifX, W_forX, X_ok, X_ex, X_liftX, X_xop1, X_xop2, X_xite, X_xand, X_xor, X_xnot, X_call, X_new, X_meth, X_mut, W_methR, W_isW, W_fldF, W_stoF, W_dputX, W_lputX, W_lInsert, W_lAppend, W_lExtend, W_lPopAt, W_lPop, W_dPop, W_dgetO, W_ltIS, W_isNU, W_notNU, W_raise, W_seq, W_asg, W_drop, W_ret, W_if, W_skip, W_brk, W_cnt, W_pre, W_for, W_app', W_retT', W_dget, W_din, W_dnin, W_dlen, W_dkeys, W_dput', W_clear', W_try, W_tryGo, W_asSu, W_isX, W_nameX, W_startsT, W_strI, W_andI, W_orI, W_xorI, W_shlI, W_dmodI, W_bitsI, X_box, W_forK, W_eqK, W_dclear', W_rtN, W_ok, W_ex, W_bind, W_ofO, W_chk, W_op1, W_op2, W_op3, W_iteE, W_andE, W_orE, W_notE, W_chainE, W_addI, W_subI, W_mulI, W_divI, W_modI, W_negI, W_ltI, W_leI, W_gtI, W_geI, W_eqA, W_neA, W_inL, W_ninL, W_isNo, W_notNo, W_anyL, W_allL, W_sumL, W_lenL, W_min2, W_max2, W_intB, W_idxL, W_sizeL, W_catL, W_rng, W_addT, W_idxT, W_cutT, W_lenT, W_ltT, W_lcE, W_eqD, W_neD, W_inD, W_ninD, asT_enc, okD_enc, Bool.and_self, decide_eq_true_eq, Bool.not_eq_true', decide_eq_false_iff_not, true_and, and_true, if_true, if_false, Bool.false_eq_true, Bool.not_true, Bool.not_false, putB, putC, putN, set_get e, Option.bind_some, Wo.get_marks, Wo.put_marks]
    refine ⟨U, rfl, by omega, M, rfl, by omega, ?_⟩
    show (w.set h.i _).set h.i _ = _
    rw [List.set_set]
theorem GI.add (I : GI U M dep) {n : Str} (g : ¬ IsG U n) (a : Option Str) (ha : ∀ p, a = some p → IsG U p ∧ dep p ≤ 7) (hl : U.kvs.length < 1000) :
    GI (U.put n a) (M.put n false) (fun x => if x = n then dpA dep a else dep x) := by
  have hk := not_key g
  have ek : (U.put n a).kvs.map (·.1) = U.kvs.map (·.1) ++ [n] := by rw [keys_put, if_neg hk]
  have gg : ∀ x, (U.put n a).get x = if x = n then some a else U.get x := fun x => get_put U n x a
  have keep : ∀ p, IsG U p → (∃ v, (U.put n a).get p = some v) ∧ p ≠ n := fun p gp => by
    have ne : p ≠ n := fun z => g (z ▸ gp)
    obtain ⟨v, hv⟩ := gp
    exact ⟨⟨v, by rw [gg, if_neg ne]; exact hv⟩, ne⟩
  refine ⟨?_, ?_, fun x u hx => ?_, ?_⟩
  · rw [ek, List.nodup_append]
    exact ⟨I.nd, by simp, fun x hx y hy exy => hk (by rw [List.mem_singleton.mp hy] at exy; exact exy ▸ hx)⟩
  · have := congrArg List.length ek
    simp at this
    omega
  · rw [gg] at hx
    by_cases hxn : x = n
    · rw [if_pos hxn] at hx
      cases hx
      rw [if_pos hxn]
      cases a with
      | none => exact ⟨by show 1 ≤ 1; decide, by show 1 ≤ 8; decide, fun _ => rfl, fun p z => nomatch z⟩
      | some p =>
        obtain ⟨gp, dp⟩ := ha p rfl
        obtain ⟨k1, k2⟩ := keep p gp
        refine ⟨by show 1 ≤ dep p + 1; omega, by show dep p + 1 ≤ 8; omega, fun z => (nomatch z), fun q z => ?_⟩
        cases z
        refine ⟨k1, ?_⟩
        rw [if_neg k2]
        rfl
    · rw [if_neg hxn] at hx
      obtain ⟨d1, d2, n1, n2⟩ := I.up x u hx
      rw [if_neg hxn]
      refine ⟨d1, d2, n1, fun p z => ?_⟩
      obtain ⟨gp, dp⟩ := n2 p z
      obtain ⟨k1, k2⟩ := keep p gp
      exact ⟨k1, by rw [if_neg k2]; exact dp⟩
  · rw [ek, keys_put, if_neg (by rw [I.mks]; exact hk), I.mks]
end
theorem truth_ok (a b : Bool) : truth_is (a, b, ()) = .ok (decide (a = b)) := by
  apply eq_of_W
  unfold truth_is F_truth_is
  simp only [W_endF, W_endU, X_endX, X_endXU, W_asgX, W_dropX, W_retX, W_ifX, W_forX, X_ok, X_ex, X_liftX, X_xop1, X_xop2, X_xite, X_xand, X_xor, X_xnot, X_call, X_new, X_meth, X_mut, W_methR, W_isW, W_fldF, W_stoF, W_dputX, W_lputX, W_lInsert, W_lAppend, W_lExtend, W_lPopAt, W_lPop, W_dPop, W_dgetO, W_ltIS, W_isNU, W_notNU, W_raise, W_seq, W_asg, W_drop, W_ret, W_if, W_skip, W_brk, W_cnt, W_pre, W_for, W_app', W_retT', W_dget, W_din, W_dnin, W_dlen, W_dkeys, W_dput', W_clear', W_try, W_tryGo, W_asSu, W_isX, W_nameX, W_startsT, W_strI, W_andI, W_orI, W_xorI, W_shlI, W_dmodI, W_bitsI, X_box, W_forK, W_eqK, W_dclear', W_rtN, W_ok, W_ex, W_bind, W_ofO, W_chk, W_op1, W_op2, W_op3, W_iteE, W_andE, W_orE, W_notE, W_chainE, W_addI, W_subI, W_mulI, W_divI, W_modI, W_negI, W_ltI, W_leI, W_gtI, W_geI, W_eqA, W_neA, W_inL, W_ninL, W_isNo, W_notNo, W_anyL, W_allL, W_sumL, W_lenL, W_min2, W_max2, W_intB, W_idxL, W_sizeL, W_catL, W_rng, W_addT, W_idxT, W_cutT, W_lenT, W_ltT, W_lcE, W_eqD, W_neD, W_inD, W_ninD, asT_enc, okD_enc, Bool.and_self, decide_eq_true_eq, Bool.not_eq_true', decide_eq_false_iff_not, true_and, and_true, if_true, if_false, Bool.false_eq_true, Bool.not_true, Bool.not_false, putB, putC, putN]
section
variable {w : List Wo} {h : Hn} {U : UD} {M : MD} {dep : Str → Nat}
theorem stands_ok (I : GI U M dep) (e : GAt w h U M) : stands (h, M, ()) w = .ok true := by
  have sl := sizeLn_eq
  apply eq_of_W
  unfold stands F_stands
  simp only [W_endF, W_endU, X_endX, X_endXU, W_asgX, W_dropX, W_retX, W_ifX, W_forX, X_ok, X_ex, X_liftX, X_xop1, X_xop2, X_xite, X_xand, X_xor, X_xnot, X_call, X_new, X_meth, X_mut, W_methR, W_isW, W_fldF, W_stoF, W_dputX, W_lputX, W_lInsert, W_lAppend, W_lExtend, W_lPopAt, W_lPop, W_dPop, W_dgetO, W_ltIS, W_isNU, W_notNU, W_raise, W_seq, W_asg, W_drop, W_ret, W_if, W_skip, W_brk, W_cnt, W_pre, W_for, W_app', W_retT', W_dget, W_din, W_dnin, W_dlen, W_dkeys, W_dput', W_clear', W_try, W_tryGo, W_asSu, W_isX, W_nameX, W_startsT, W_strI, W_andI, W_orI, W_xorI, W_shlI, W_dmodI, W_bitsI, X_box, W_forK, W_eqK, W_dclear', W_rtN, W_ok, W_ex, W_bind, W_ofO, W_chk, W_op1, W_op2, W_op3, W_iteE, W_andE, W_orE, W_notE, W_chainE, W_addI, W_subI, W_mulI, W_divI, W_modI, W_negI, W_ltI, W_leI, W_gtI, W_geI, W_eqA, W_neA, W_inL, W_ninL, W_isNo, W_notNo, W_anyL, W_allL, W_sumL, W_lenL, W_min2, W_max2, W_intB, W_idxL, W_sizeL, W_catL, W_rng, W_addT, W_idxT, W_cutT, W_lenT, W_ltT, W_lcE, W_eqD, W_neD, W_inD, W_ninD, asT_enc, okD_enc, Bool.and_self, decide_eq_true_eq, Bool.not_eq_true', decide_eq_false_iff_not, true_and, and_true, if_true, if_false, Bool.false_eq_true, Bool.not_true, Bool.not_false, putB, putC, putN, gw_stands]
  refine W_loop (fun (pre : List (T2 Str Bool)) (t : T_stands) => ∃ a b c d, t = (some h, some M, a, b, c, d, w)) (M.kvs.map fun kv => (⟨kv.1, kv.2⟩ : T2 Str Bool)) [] _ ⟨none, none, none, none, rfl⟩ (fun pre y post t he ⟨a, b, c, d, et⟩ => ?_) (fun t ⟨a, b, c, d, et⟩ => ?_)
  · subst et
    have hy : y ∈ M.kvs.map fun kv => (⟨kv.1, kv.2⟩ : T2 Str Bool) := by rw [show M.kvs.map (fun kv => (⟨kv.1, kv.2⟩ : T2 Str Bool)) = pre ++ y :: post from by rw [he]; rfl]; simp
    obtain ⟨⟨n, m⟩, hk, rfl⟩ := List.mem_map.mp hy
    have gm : M.get n = some m := getK_of (by rw [I.mks]; exact I.nd) hk
    have g : IsG U n := isG_key.mpr (by rw [← I.mks]; exact List.mem_map.mpr ⟨(n, m), hk, rfl⟩)
    have hd : dep n ≤ 8 := by
      obtain ⟨u, hu⟩ := g
      exact (I.up n u hu).2.1
    obtain ⟨c1, c2⟩ := chF_spec I 8 n g (by omega)
    simp only [W_endF, W_endU, X_endX, X_endXU, W_asgX, W_dropX, W_retX, W_ifX, W_forX, X_ok, X_ex, X_liftX, X_xop1, X_xop2, X_xite, X_xand, X_xor, X_xnot, X_call, X_new, X_meth, X_mut, W_methR, W_isW, W_fldF, W_stoF, W_dputX, W_lputX, W_lInsert, W_lAppend, W_lExtend, W_lPopAt, W_lPop, W_dPop, W_dgetO, W_ltIS, W_isNU, W_notNU, W_raise, W_seq, W_asg, W_drop, W_ret, W_if, W_skip, W_brk, W_cnt, W_pre, W_for, W_app', W_retT', W_dget, W_din, W_dnin, W_dlen, W_dkeys, W_dput', W_clear', W_try, W_tryGo, W_asSu, W_isX, W_nameX, W_startsT, W_strI, W_andI, W_orI, W_xorI, W_shlI, W_dmodI, W_bitsI, X_box, W_forK, W_eqK, W_dclear', W_rtN, W_ok, W_ex, W_bind, W_ofO, W_chk, W_op1, W_op2, W_op3, W_iteE, W_andE, W_orE, W_notE, W_chainE, W_addI, W_subI, W_mulI, W_divI, W_modI, W_negI, W_ltI, W_leI, W_gtI, W_geI, W_eqA, W_neA, W_inL, W_ninL, W_isNo, W_notNo, W_anyL, W_allL, W_sumL, W_lenL, W_min2, W_max2, W_intB, W_idxL, W_sizeL, W_catL, W_rng, W_addT, W_idxT, W_cutT, W_lenT, W_ltT, W_lcE, W_eqD, W_neD, W_inD, W_ninD, asT_enc, okD_enc, Bool.and_self, decide_eq_true_eq, Bool.not_eq_true', decide_eq_false_iff_not, true_and, and_true, if_true, if_false, Bool.false_eq_true, Bool.not_true, Bool.not_false, putB, putC, putN]
    refine ⟨_, e.row _, ?_⟩
    rw [marked_ok I e g, gm]
    simp only [W_endF, W_endU, X_endX, X_endXU, W_asgX, W_dropX, W_retX, W_ifX, W_forX, X_ok, X_ex, X_liftX, X_xop1, X_xop2, X_xite, X_xand, X_xor, X_xnot, X_call, X_new, X_meth, X_mut, W_methR, W_isW, W_fldF, W_stoF, W_dputX, W_lputX, W_lInsert, W_lAppend, W_lExtend, W_lPopAt, W_lPop, W_dPop, W_dgetO, W_ltIS, W_isNU, W_notNU, W_raise, W_seq, W_asg, W_drop, W_ret, W_if, W_skip, W_brk, W_cnt, W_pre, W_for, W_app', W_retT', W_dget, W_din, W_dnin, W_dlen, W_dkeys, W_dput', W_clear', W_try, W_tryGo, W_asSu, W_isX, W_nameX, W_startsT, W_strI, W_andI, W_orI, W_xorI, W_shlI, W_dmodI, W_bitsI, X_box, W_forK, W_eqK, W_dclear', W_rtN, W_ok, W_ex, W_bind, W_ofO, W_chk, W_op1, W_op2, W_op3, W_iteE, W_andE, W_orE, W_notE, W_chainE, W_addI, W_subI, W_mulI, W_divI, W_modI, W_negI, W_ltI, W_leI, W_gtI, W_geI, W_eqA, W_neA, W_inL, W_ninL, W_isNo, W_notNo, W_anyL, W_allL, W_sumL, W_lenL, W_min2, W_max2, W_intB, W_idxL, W_sizeL, W_catL, W_rng, W_addT, W_idxT, W_cutT, W_lenT, W_ltT, W_lcE, W_eqD, W_neD, W_inD, W_ninD, asT_enc, okD_enc, Bool.and_self, decide_eq_true_eq, Bool.not_eq_true', decide_eq_false_iff_not, true_and, and_true, if_true, if_false, Bool.false_eq_true, Bool.not_true, Bool.not_false, putB, putC, putN]
    rw [show (some m).getD false = m from rfl, truth_ok]
    simp only [W_endF, W_endU, X_endX, X_endXU, W_asgX, W_dropX, W_retX, W_ifX, W_forX, X_ok, X_ex, X_liftX, X_xop1, X_xop2, X_xite, X_xand, X_xor, X_xnot, X_call, X_new, X_meth, X_mut, W_methR, W_isW, W_fldF, W_stoF, W_dputX, W_lputX, W_lInsert, W_lAppend, W_lExtend, W_lPopAt, W_lPop, W_dPop, W_dgetO, W_ltIS, W_isNU, W_notNU, W_raise, W_seq, W_asg, W_drop, W_ret, W_if, W_skip, W_brk, W_cnt, W_pre, W_for, W_app', W_retT', W_dget, W_din, W_dnin, W_dlen, W_dkeys, W_dput', W_clear', W_try, W_tryGo, W_asSu, W_isX, W_nameX, W_startsT, W_strI, W_andI, W_orI, W_xorI, W_shlI, W_dmodI, W_bitsI, X_box, W_forK, W_eqK, W_dclear', W_rtN, W_ok, W_ex, W_bind, W_ofO, W_chk, W_op1, W_op2, W_op3, W_iteE, W_andE, W_orE, W_notE, W_chainE, W_addI, W_subI, W_mulI, W_divI, W_modI, W_negI, W_ltI, W_leI, W_gtI, W_geI, W_eqA, W_neA, W_inL, W_ninL, W_isNo, W_notNo, W_anyL, W_allL, W_sumL, W_lenL, W_min2, W_max2, W_intB, W_idxL, W_sizeL, W_catL, W_rng, W_addT, W_idxT, W_cutT, W_lenT, W_ltT, W_lcE, W_eqD, W_neD, W_inD, W_ninD, asT_enc, okD_enc, Bool.and_self, decide_eq_true_eq, Bool.not_eq_true', decide_eq_false_iff_not, true_and, and_true, if_true, if_false, Bool.false_eq_true, Bool.not_true, Bool.not_false, putB, putC, putN]
    rw [if_neg (by simp)]
    intro v hv
    refine ⟨_, e.row _, ?_⟩
    rw [chain_ok I e g]
    simp only [W_endF, W_endU, X_endX, X_endXU, W_asgX, W_dropX, W_retX, W_ifX, W_forX, X_ok, X_ex, X_liftX, X_xop1, X_xop2, X_xite, X_xand, X_xor, X_xnot, X_call, X_new, X_meth, X_mut, W_methR, W_isW, W_fldF, W_stoF, W_dputX, W_lputX, W_lInsert, W_lAppend, W_lExtend, W_lPopAt, W_lPop, W_dPop, W_dgetO, W_ltIS, W_isNU, W_notNU, W_raise, W_seq, W_asg, W_drop, W_ret, W_if, W_skip, W_brk, W_cnt, W_pre, W_for, W_app', W_retT', W_dget, W_din, W_dnin, W_dlen, W_dkeys, W_dput', W_clear', W_try, W_tryGo, W_asSu, W_isX, W_nameX, W_startsT, W_strI, W_andI, W_orI, W_xorI, W_shlI, W_dmodI, W_bitsI, X_box, W_forK, W_eqK, W_dclear', W_rtN, W_ok, W_ex, W_bind, W_ofO, W_chk, W_op1, W_op2, W_op3, W_iteE, W_andE, W_orE, W_notE, W_chainE, W_addI, W_subI, W_mulI, W_divI, W_modI, W_negI, W_ltI, W_leI, W_gtI, W_geI, W_eqA, W_neA, W_inL, W_ninL, W_isNo, W_notNo, W_anyL, W_allL, W_sumL, W_lenL, W_min2, W_max2, W_intB, W_idxL, W_sizeL, W_catL, W_rng, W_addT, W_idxT, W_cutT, W_lenT, W_ltT, W_lcE, W_eqD, W_neD, W_inD, W_ninD, asT_enc, okD_enc, Bool.and_self, decide_eq_true_eq, Bool.not_eq_true', decide_eq_false_iff_not, true_and, and_true, if_true, if_false, Bool.false_eq_true, Bool.not_true, Bool.not_false, putB, putC, putN]
    refine W_loop (fun (pre : List Str) (t : T_stands) => ∃ x, t = (some h, some M, some n, some m, some (!pre.any fun x => (M.get x).getD false), x, w)) (chF U 8 n) [] _ ⟨d, by rw [hv]; rfl⟩ (fun pre2 y2 post2 t2 he2 ⟨x, et2⟩ => ?_) (fun t2 ⟨x, et2⟩ => ?_)
    · subst et2
      have hx : y2 ∈ chF U 8 n := by rw [show chF U 8 n = pre2 ++ y2 :: post2 from by rw [he2]; rfl]; simp
      obtain ⟨b2, hb⟩ := I.mark (c2 y2 hx)
      simp only [W_endF, W_endU, X_endX, X_endXU, W_asgX, W_dropX, W_retX, W_ifX, W_forX, X_ok, X_ex, X_liftX, X_xop1, X_xop2, X_xite, X_xand, X_xor, X_xnot, X_call, X_new, X_meth, X_mut, W_methR, W_isW, W_fldF, W_stoF, W_dputX, W_lputX, W_lInsert, W_lAppend, W_lExtend, W_lPopAt, W_lPop, W_dPop, W_dgetO, W_ltIS, W_isNU, W_notNU, W_raise, W_seq, W_asg, W_drop, W_ret, W_if, W_skip, W_brk, W_cnt, W_pre, W_for, W_app', W_retT', W_dget, W_din, W_dnin, W_dlen, W_dkeys, W_dput', W_clear', W_try, W_tryGo, W_asSu, W_isX, W_nameX, W_startsT, W_strI, W_andI, W_orI, W_xorI, W_shlI, W_dmodI, W_bitsI, X_box, W_forK, W_eqK, W_dclear', W_rtN, W_ok, W_ex, W_bind, W_ofO, W_chk, W_op1, W_op2, W_op3, W_iteE, W_andE, W_orE, W_notE, W_chainE, W_addI, W_subI, W_mulI, W_divI, W_modI, W_negI, W_ltI, W_leI, W_gtI, W_geI, W_eqA, W_neA, W_inL, W_ninL, W_isNo, W_notNo, W_anyL, W_allL, W_sumL, W_lenL, W_min2, W_max2, W_intB, W_idxL, W_sizeL, W_catL, W_rng, W_addT, W_idxT, W_cutT, W_lenT, W_ltT, W_lcE, W_eqD, W_neD, W_inD, W_ninD, asT_enc, okD_enc, Bool.and_self, decide_eq_true_eq, Bool.not_eq_true', decide_eq_false_iff_not, true_and, and_true, if_true, if_false, Bool.false_eq_true, Bool.not_true, Bool.not_false, putB, putC, putN]
      refine ⟨b2, hb, ?_⟩
      cases b2 with
      | true =>
        rw [if_pos rfl]
        intro v3 hv3
        refine ⟨some y2, ?_⟩
        rw [hv3, List.any_append]
        simp [hb]
      | false =>
        rw [if_neg (by decide)]
        refine ⟨some y2, ?_⟩
        rw [List.any_append]
        simp [hb]
    · subst et2
      simp only [W_endF, W_endU, X_endX, X_endXU, W_asgX, W_dropX, W_retX, W_ifX, W_forX, X_ok, X_ex, X_liftX, X_xop1, X_xop2, X_xite, X_xand, X_xor, X_xnot, X_call, X_new, X_meth, X_mut, W_methR, W_isW, W_fldF, W_stoF, W_dputX, W_lputX, W_lInsert, W_lAppend, W_lExtend, W_lPopAt, W_lPop, W_dPop, W_dgetO, W_ltIS, W_isNU, W_notNU, W_raise, W_seq, W_asg, W_drop, W_ret, W_if, W_skip, W_brk, W_cnt, W_pre, W_for, W_app', W_retT', W_dget, W_din, W_dnin, W_dlen, W_dkeys, W_dput', W_clear', W_try, W_tryGo, W_asSu, W_isX, W_nameX, W_startsT, W_strI, W_andI, W_orI, W_xorI, W_shlI, W_dmodI, W_bitsI, X_box, W_forK, W_eqK, W_dclear', W_rtN, W_ok, W_ex, W_bind, W_ofO, W_chk, W_op1, W_op2, W_op3, W_iteE, W_andE, W_orE, W_notE, W_chainE, W_addI, W_subI, W_mulI, W_divI, W_modI, W_negI, W_ltI, W_leI, W_gtI, W_geI, W_eqA, W_neA, W_inL, W_ninL, W_isNo, W_notNo, W_anyL, W_allL, W_sumL, W_lenL, W_min2, W_max2, W_intB, W_idxL, W_sizeL, W_catL, W_rng, W_addT, W_idxT, W_cutT, W_lenT, W_ltT, W_lcE, W_eqD, W_neD, W_inD, W_ninD, asT_enc, okD_enc, Bool.and_self, decide_eq_true_eq, Bool.not_eq_true', decide_eq_false_iff_not, true_and, and_true, if_true, if_false, Bool.false_eq_true, Bool.not_true, Bool.not_false, putB, putC, putN]
      refine ⟨_, e.row _, ?_⟩
      rw [awake_ok I e g]
      simp only [W_endF, W_endU, X_endX, X_endXU, W_asgX, W_dropX, W_retX, W_ifX, W_forX, X_ok, X_ex, X_liftX, X_xop1, X_xop2, X_xite, X_xand, X_xor, X_xnot, X_call, X_new, X_meth, X_mut, W_methR, W_isW, W_fldF, W_stoF, W_dputX, W_lputX, W_lInsert, W_lAppend, W_lExtend, W_lPopAt, W_lPop, W_dPop, W_dgetO, W_ltIS, W_isNU, W_notNU, W_raise, W_seq, W_asg, W_drop, W_ret, W_if, W_skip, W_brk, W_cnt, W_pre, W_for, W_app', W_retT', W_dget, W_din, W_dnin, W_dlen, W_dkeys, W_dput', W_clear', W_try, W_tryGo, W_asSu, W_isX, W_nameX, W_startsT, W_strI, W_andI, W_orI, W_xorI, W_shlI, W_dmodI, W_bitsI, X_box, W_forK, W_eqK, W_dclear', W_rtN, W_ok, W_ex, W_bind, W_ofO, W_chk, W_op1, W_op2, W_op3, W_iteE, W_andE, W_orE, W_notE, W_chainE, W_addI, W_subI, W_mulI, W_divI, W_modI, W_negI, W_ltI, W_leI, W_gtI, W_geI, W_eqA, W_neA, W_inL, W_ninL, W_isNo, W_notNo, W_anyL, W_allL, W_sumL, W_lenL, W_min2, W_max2, W_intB, W_idxL, W_sizeL, W_catL, W_rng, W_addT, W_idxT, W_cutT, W_lenT, W_ltT, W_lcE, W_eqD, W_neD, W_inD, W_ninD, asT_enc, okD_enc, Bool.and_self, decide_eq_true_eq, Bool.not_eq_true', decide_eq_false_iff_not, true_and, and_true, if_true, if_false, Bool.false_eq_true, Bool.not_true, Bool.not_false, putB, putC, putN]
      rw [List.nil_append]
      rw [show marksOf U M n = (chF U 8 n).any fun x => (M.get x).getD false from rfl, truth_ok]
      simp only [W_endF, W_endU, X_endX, X_endXU, W_asgX, W_dropX, W_retX, W_ifX, W_forX, X_ok, X_ex, X_liftX, X_xop1, X_xop2, X_xite, X_xand, X_xor, X_xnot, X_call, X_new, X_meth, X_mut, W_methR, W_isW, W_fldF, W_stoF, W_dputX, W_lputX, W_lInsert, W_lAppend, W_lExtend, W_lPopAt, W_lPop, W_dPop, W_dgetO, W_ltIS, W_isNU, W_notNU, W_raise, W_seq, W_asg, W_drop, W_ret, W_if, W_skip, W_brk, W_cnt, W_pre, W_for, W_app', W_retT', W_dget, W_din, W_dnin, W_dlen, W_dkeys, W_dput', W_clear', W_try, W_tryGo, W_asSu, W_isX, W_nameX, W_startsT, W_strI, W_andI, W_orI, W_xorI, W_shlI, W_dmodI, W_bitsI, X_box, W_forK, W_eqK, W_dclear', W_rtN, W_ok, W_ex, W_bind, W_ofO, W_chk, W_op1, W_op2, W_op3, W_iteE, W_andE, W_orE, W_notE, W_chainE, W_addI, W_subI, W_mulI, W_divI, W_modI, W_negI, W_ltI, W_leI, W_gtI, W_geI, W_eqA, W_neA, W_inL, W_ninL, W_isNo, W_notNo, W_anyL, W_allL, W_sumL, W_lenL, W_min2, W_max2, W_intB, W_idxL, W_sizeL, W_catL, W_rng, W_addT, W_idxT, W_cutT, W_lenT, W_ltT, W_lcE, W_eqD, W_neD, W_inD, W_ninD, asT_enc, okD_enc, Bool.and_self, decide_eq_true_eq, Bool.not_eq_true', decide_eq_false_iff_not, true_and, and_true, if_true, if_false, Bool.false_eq_true, Bool.not_true, Bool.not_false, putB, putC, putN]
      rw [if_neg (by simp)]
      exact ⟨_, _, _, _, rfl⟩
  · subst et
    simp only [W_endF, W_endU, X_endX, X_endXU, W_asgX, W_dropX, W_retX, W_ifX, W_forX, X_ok, X_ex, X_liftX, X_xop1, X_xop2, X_xite, X_xand, X_xor, X_xnot, X_call, X_new, X_meth, X_mut, W_methR, W_isW, W_fldF, W_stoF, W_dputX, W_lputX, W_lInsert, W_lAppend, W_lExtend, W_lPopAt, W_lPop, W_dPop, W_dgetO, W_ltIS, W_isNU, W_notNU, W_raise, W_seq, W_asg, W_drop, W_ret, W_if, W_skip, W_brk, W_cnt, W_pre, W_for, W_app', W_retT', W_dget, W_din, W_dnin, W_dlen, W_dkeys, W_dput', W_clear', W_try, W_tryGo, W_asSu, W_isX, W_nameX, W_startsT, W_strI, W_andI, W_orI, W_xorI, W_shlI, W_dmodI, W_bitsI, X_box, W_forK, W_eqK, W_dclear', W_rtN, W_ok, W_ex, W_bind, W_ofO, W_chk, W_op1, W_op2, W_op3, W_iteE, W_andE, W_orE, W_notE, W_chainE, W_addI, W_subI, W_mulI, W_divI, W_modI, W_negI, W_ltI, W_leI, W_gtI, W_geI, W_eqA, W_neA, W_inL, W_ninL, W_isNo, W_notNo, W_anyL, W_allL, W_sumL, W_lenL, W_min2, W_max2, W_intB, W_idxL, W_sizeL, W_catL, W_rng, W_addT, W_idxT, W_cutT, W_lenT, W_ltT, W_lcE, W_eqD, W_neD, W_inD, W_ninD, asT_enc, okD_enc, Bool.and_self, decide_eq_true_eq, Bool.not_eq_true', decide_eq_false_iff_not, true_and, and_true, if_true, if_false, Bool.false_eq_true, Bool.not_true, Bool.not_false, putB, putC, putN]
end
theorem abcAt {k : Int} (h0 : 0 ≤ k) (h1 : k < 26) : atI (Str.ofString "abcdefghijklmnopqrstuvwxyz").cps.toList k = some (k.toNat + 97) := by
  have e : (Str.ofString "abcdefghijklmnopqrstuvwxyz").cps.toList = (List.range 26).map (· + 97) := by decide +kernel
  rw [e]
  unfold atI ixN
  rw [if_pos h0, List.length_map, List.length_range, if_pos (by omega)]
  show ((List.range 26).map (· + 97))[k.toNat]? = _
  rw [List.getElem?_map, List.getElem?_range (by omega)]
  rfl
theorem abc_l : (Str.ofString "abcdefghijklmnopqrstuvwxyz").length = 26 := by decide +kernel
theorem r_l : (Str.ofString "r").length = 1 := by decide +kernel
theorem name_ok (st : Int) : ∃ f : Nat → Str, (∀ k : Nat, k ≤ 20 → name ((k : Int), st, ()) = .ok (f k)) ∧ ∀ i j : Nat, i ≤ 20 → j ≤ 20 → f i = f j → i = j := by
  have sl := sizeLn_eq
  have m7 := Int.emod_nonneg (st / 2) (show (7 : Int) ≠ 0 by decide)
  have m7' := Int.emod_lt_of_pos (st / 2) (show (0 : Int) < 7 by decide)
  have lz := mulZ_len (Str.ofString "r") (st / 2 % 7)
  rw [r_l] at lz
  by_cases hs : st % 2 = 0
  · refine ⟨fun k => one (k + 97) ++ mulZ (Str.ofString "r") (st / 2 % 7) ++ one ((((k : Int) + st / 14) % 26).toNat + 97), fun k hk => ?_, fun i j _ _ e => ?_⟩
    · apply eq_of_W
      unfold name F_name
      simp only [W_endF, W_endU, X_endX, X_endXU, W_asgX, W_dropX, W_retX, W_ifX, W_forX, X_ok, X_ex, X_liftX, X_xop1, X_xop2, X_xite, X_xand, X_xor, X_xnot, X_call, X_new, X_meth, X_mut, W_methR, W_isW, W_fldF, W_stoF, W_dputX, W_lputX, W_lInsert, W_lAppend, W_lExtend, W_lPopAt, W_lPop, W_dPop, W_dgetO, W_ltIS, W_isNU, W_notNU, W_raise, W_seq, W_asg, W_drop, W_ret, W_if, W_skip, W_brk, W_cnt, W_pre, W_for, W_app', W_retT', W_dget, W_din, W_dnin, W_dlen, W_dkeys, W_dput', W_clear', W_try, W_tryGo, W_asSu, W_isX, W_nameX, W_startsT, W_strI, W_andI, W_orI, W_xorI, W_shlI, W_dmodI, W_bitsI, X_box, W_forK, W_eqK, W_dclear', W_rtN, W_ok, W_ex, W_bind, W_ofO, W_chk, W_op1, W_op2, W_op3, W_iteE, W_andE, W_orE, W_notE, W_chainE, W_addI, W_subI, W_mulI, W_divI, W_modI, W_negI, W_ltI, W_leI, W_gtI, W_geI, W_eqA, W_neA, W_inL, W_ninL, W_isNo, W_notNo, W_anyL, W_allL, W_sumL, W_lenL, W_min2, W_max2, W_intB, W_idxL, W_sizeL, W_catL, W_rng, W_addT, W_idxT, W_cutT, W_lenT, W_ltT, W_lcE, W_eqD, W_neD, W_inD, W_ninD, asT_enc, okD_enc, Bool.and_self, decide_eq_true_eq, Bool.not_eq_true', decide_eq_false_iff_not, true_and, and_true, if_true, if_false, Bool.false_eq_true, Bool.not_true, Bool.not_false, putB, putC, putN, W_mulT]
      intro v hv
      subst hv
      rw [if_pos hs]
      have a1 := abcAt (k := (k : Int) % 26) (by omega) (by omega)
      have n1 := Int.emod_nonneg ((k : Int) + st / 14) (show (26 : Int) ≠ 0 by decide)
      have n2 := Int.emod_lt_of_pos ((k : Int) + st / 14) (show (0 : Int) < 26 by decide)
      have a2 := abcAt (k := ((k : Int) + st / 14) % 26) n1 n2
      rw [show ((k : Int) % 26).toNat = k by omega] at a1
      have l1 : ∀ c, (one c).length = 1 := fun c => len_one c
      refine ⟨by decide, by decide, by rw [abc_l]; omega, k + 97, a1, DivOk.of ⟨by decide, by decide⟩, by decide, ⟨by omega, by omega, by rw [r_l]; omega, by rw [r_l]; decide⟩, by rw [l1]; omega, DivOk.of ⟨by decide, by decide⟩, by decide, by rw [abc_l]; omega, _, a2, ?_, rfl⟩
      rw [len_app, l1, l1]
      omega
    · have h9 : ((one (i + 97) ++ mulZ (Str.ofString "r") (st / 2 % 7) ++ one ((((i : Int) + st / 14) % 26).toNat + 97)).cps.toList).head? = ((one (j + 97) ++ mulZ (Str.ofString "r") (st / 2 % 7) ++ one ((((j : Int) + st / 14) % 26).toNat + 97)).cps.toList).head? := by rw [show one (i + 97) ++ mulZ (Str.ofString "r") (st / 2 % 7) ++ one ((((i : Int) + st / 14) % 26).toNat + 97) = _ from e]
      have key : ∀ (c : Nat) (a b : Str), (one c ++ a ++ b).cps.toList.head? = some c := fun c a b => by
        show ((#[c] ++ a.cps) ++ b.cps).toList.head? = _
        rw [Array.toList_append, Array.toList_append]
        rfl
      rw [key, key] at h9
      have := Option.some.inj h9
      omega
  · refine ⟨fun k => mulZ (Str.ofString "r") (st / 2 % 7) ++ one 97 ++ one (25 - k + 97), fun k hk => ?_, fun i j hi hj e => ?_⟩
    · apply eq_of_W
      unfold name F_name
      simp only [W_endF, W_endU, X_endX, X_endXU, W_asgX, W_dropX, W_retX, W_ifX, W_forX, X_ok, X_ex, X_liftX, X_xop1, X_xop2, X_xite, X_xand, X_xor, X_xnot, X_call, X_new, X_meth, X_mut, W_methR, W_isW, W_fldF, W_stoF, W_dputX, W_lputX, W_lInsert, W_lAppend, W_lExtend, W_lPopAt, W_lPop, W_dPop, W_dgetO, W_ltIS, W_isNU, W_notNU, W_raise, W_seq, W_asg, W_drop, W_ret, W_if, W_skip, W_brk, W_cnt, W_pre, W_for, W_app', W_retT', W_dget, W_din, W_dnin, W_dlen, W_dkeys, W_dput', W_clear', W_try, W_tryGo, W_asSu, W_isX, W_nameX, W_startsT, W_strI, W_andI, W_orI, W_xorI, W_shlI, W_dmodI, W_bitsI, X_box, W_forK, W_eqK, W_dclear', W_rtN, W_ok, W_ex, W_bind, W_ofO, W_chk, W_op1, W_op2, W_op3, W_iteE, W_andE, W_orE, W_notE, W_chainE, W_addI, W_subI, W_mulI, W_divI, W_modI, W_negI, W_ltI, W_leI, W_gtI, W_geI, W_eqA, W_neA, W_inL, W_ninL, W_isNo, W_notNo, W_anyL, W_allL, W_sumL, W_lenL, W_min2, W_max2, W_intB, W_idxL, W_sizeL, W_catL, W_rng, W_addT, W_idxT, W_cutT, W_lenT, W_ltT, W_lcE, W_eqD, W_neD, W_inD, W_ninD, asT_enc, okD_enc, Bool.and_self, decide_eq_true_eq, Bool.not_eq_true', decide_eq_false_iff_not, true_and, and_true, if_true, if_false, Bool.false_eq_true, Bool.not_true, Bool.not_false, putB, putC, putN, W_mulT]
      intro v hv
      subst hv
      rw [if_neg hs]
      have a1 := abcAt (k := (k : Int) / 26) (by omega) (by omega)
      have a2 := abcAt (k := 25 - (k : Int) % 26) (by omega) (by omega)
      rw [show ((k : Int) / 26).toNat + 97 = 97 by omega] at a1
      rw [show (25 - (k : Int) % 26).toNat = 25 - k by omega] at a2
      have l1 : ∀ c, (one c).length = 1 := fun c => len_one c
      refine ⟨by decide, DivOk.of ⟨by decide, by decide⟩, by decide, ⟨by omega, by omega, by rw [r_l]; omega, by rw [r_l]; decide⟩, DivOk.of ⟨by decide, by decide⟩, by rw [abc_l]; omega, _, a1, by rw [l1]; omega, by decide, by rw [abc_l]; omega, _, a2, ?_, rfl⟩
      rw [len_app, l1, l1]
      omega
    · have key : ∀ (c : Nat) (a b : Str), (a ++ b ++ one c).cps.toList.getLast? = some c := fun c a b => by
        show ((a.cps ++ b.cps) ++ #[c]).toList.getLast? = _
        rw [Array.toList_append]
        simp
      have h9 : (mulZ (Str.ofString "r") (st / 2 % 7) ++ one 97 ++ one (25 - i + 97)).cps.toList.getLast? = (mulZ (Str.ofString "r") (st / 2 % 7) ++ one 97 ++ one (25 - j + 97)).cps.toList.getLast? := by rw [show mulZ (Str.ofString "r") (st / 2 % 7) ++ one 97 ++ one (25 - i + 97) = _ from e]
      rw [key, key] at h9
      have := Option.some.inj h9
      omega
theorem named_ok {names : List Str} (hn : names ≠ []) (c : Int) : ∃ x, named (names, c, ()) = .ok x ∧ x ∈ names := by
  apply ok_of_W
  have hl : 0 < names.length := List.length_pos_iff.mpr hn
  unfold named F_named
  simp only [W_endF, W_endU, X_endX, X_endXU, W_asgX, W_dropX, W_retX, W_ifX, W_forX, X_ok, X_ex, X_liftX, X_xop1, X_xop2, X_xite, X_xand, X_xor, X_xnot, X_call, X_new, X_meth, X_mut, W_methR, W_isW, W_fldF, W_stoF, W_dputX, W_lputX, W_lInsert, W_lAppend, W_lExtend, W_lPopAt, W_lPop, W_dPop, W_dgetO, W_ltIS, W_isNU, W_notNU, W_raise, W_seq, W_asg, W_drop, W_ret, W_if, W_skip, W_brk, W_cnt, W_pre, W_for, W_app', W_retT', W_dget, W_din, W_dnin, W_dlen, W_dkeys, W_dput', W_clear', W_try, W_tryGo, W_asSu, W_isX, W_nameX, W_startsT, W_strI, W_andI, W_orI, W_xorI, W_shlI, W_dmodI, W_bitsI, X_box, W_forK, W_eqK, W_dclear', W_rtN, W_ok, W_ex, W_bind, W_ofO, W_chk, W_op1, W_op2, W_op3, W_iteE, W_andE, W_orE, W_notE, W_chainE, W_addI, W_subI, W_mulI, W_divI, W_modI, W_negI, W_ltI, W_leI, W_gtI, W_geI, W_eqA, W_neA, W_inL, W_ninL, W_isNo, W_notNo, W_anyL, W_allL, W_sumL, W_lenL, W_min2, W_max2, W_intB, W_idxL, W_sizeL, W_catL, W_rng, W_addT, W_idxT, W_cutT, W_lenT, W_ltT, W_lcE, W_eqD, W_neD, W_inD, W_ninD, asT_enc, okD_enc, Bool.and_self, decide_eq_true_eq, Bool.not_eq_true', decide_eq_false_iff_not, true_and, and_true, if_true, if_false, Bool.false_eq_true, Bool.not_true, Bool.not_false, putB, putC, putN]
  refine ⟨by decide, ?_⟩
  split
  · obtain ⟨x, hx⟩ : ∃ x, names.getLast? = some x := by
      cases h : names.getLast? with
      | none => exact absurd (List.getLast?_eq_none_iff.mp h) hn
      | some x => exact ⟨x, rfl⟩
    obtain ⟨pre, rfl⟩ := List.getLast?_eq_some_iff.mp hx
    exact ⟨x, last1, by simp⟩
  · refine ⟨DivOk.of ⟨by decide, by decide⟩, by omega, ?_⟩
    refine W_at (Int.emod_nonneg _ (by omega)) (Int.emod_lt_of_pos _ (by omega)) fun a ha _ => ha
theorem if_or3 {c1 c2 c3 s : Prop} {d1 : Decidable c1} {d2 : Decidable c2} {d3 : Decidable c3} {A B : Prop} (hs : s) (ha : c1 ∨ c3 → A) (hb : ¬ c1 → B) : if c1 then A else (s ∧ if c2 then (if c3 then A else B) else B) := by
  by_cases h1 : c1
  · rw [if_pos h1]; exact ha (.inl h1)
  · rw [if_neg h1]
    refine ⟨hs, ?_⟩
    by_cases h2 : c2
    · rw [if_pos h2]
      by_cases h3 : c3
      · rw [if_pos h3]; exact ha (.inr h3)
      · rw [if_neg h3]; exact hb h1
    · rw [if_neg h2]; exact hb h1
def GK (f : Nat → Str) (w : List Wo) (h : Hn) (M : MD) (m : Nat) : Prop := ∃ (U : UD) (dep : Str → Nat), GI U M dep ∧ GAt w h U M ∧ U.kvs.map (·.1) = (List.range m).map f ∧ m ≤ 16 ∧ ∀ n u r, U.kvs = (n, u) :: r → u = none
theorem law_ok (ns : List Int) : (law (⟨ns⟩, ()) []).W NoX2 fun r _ => r = true := by
  have sl := sizeLn_eq
  have c0 : cell_at (⟨ns⟩, (0 : Int), ()) = _ := cell_at_ok ⟨ns⟩ 0
  obtain ⟨f, hf, finj⟩ := name_ok (cellV ns 0)
  unfold law F_law
  simp only [W_endF, W_endU, X_endX, X_endXU, W_asgX, W_dropX, W_retX, W_ifX, W_forX, X_ok, X_ex, X_liftX, X_xop1, X_xop2, X_xite, X_xand, X_xor, X_xnot, X_call, X_new, X_meth, X_mut, W_methR, W_isW, W_fldF, W_stoF, W_dputX, W_lputX, W_lInsert, W_lAppend, W_lExtend, W_lPopAt, W_lPop, W_dPop, W_dgetO, W_ltIS, W_isNU, W_notNU, W_raise, W_seq, W_asg, W_drop, W_ret, W_if, W_skip, W_brk, W_cnt, W_pre, W_for, W_app', W_retT', W_dget, W_din, W_dnin, W_dlen, W_dkeys, W_dput', W_clear', W_try, W_tryGo, W_asSu, W_isX, W_nameX, W_startsT, W_strI, W_andI, W_orI, W_xorI, W_shlI, W_dmodI, W_bitsI, X_box, W_forK, W_eqK, W_dclear', W_rtN, W_ok, W_ex, W_bind, W_ofO, W_chk, W_op1, W_op2, W_op3, W_iteE, W_andE, W_orE, W_notE, W_chainE, W_addI, W_subI, W_mulI, W_divI, W_modI, W_negI, W_ltI, W_leI, W_gtI, W_geI, W_eqA, W_neA, W_inL, W_ninL, W_isNo, W_notNo, W_anyL, W_allL, W_sumL, W_lenL, W_min2, W_max2, W_intB, W_idxL, W_sizeL, W_catL, W_rng, W_addT, W_idxT, W_cutT, W_lenT, W_ltT, W_lcE, W_eqD, W_neD, W_inD, W_ninD, asT_enc, okD_enc, Bool.and_self, decide_eq_true_eq, Bool.not_eq_true', decide_eq_false_iff_not, true_and, and_true, if_true, if_false, Bool.false_eq_true, Bool.not_true, Bool.not_false, putB, putC, putN, gw_law, pw_law, c0]
  intro st hst
  subst hst
  have gi : (Groups_init (⟨([] : List Wo).length⟩, ()) ([] ++ [Wo.Groups none none])).W NoX2 fun _ w' => w' = [.Groups (some ⟨[]⟩) (some ⟨[]⟩)] := by
    unfold Groups_init F_Groups_init
    simp only [W_endF, W_endU, X_endX, X_endXU, W_asgX, W_dropX, W_retX, W_ifX, W_forX, X_ok, X_ex, X_liftX, X_xop1, X_xop2, X_xite, X_xand, X_xor, X_xnot, X_call, X_new, X_meth, X_mut, W_methR, W_isW, W_fldF, W_stoF, W_dputX, W_lputX, W_lInsert, W_lAppend, W_lExtend, W_lPopAt, W_lPop, W_dPop, W_dgetO, W_ltIS, W_isNU, W_notNU, W_raise, W_seq, W_asg, W_drop, W_ret, W_if, W_skip, W_brk, W_cnt, W_pre, W_for, W_app', W_retT', W_dget, W_din, W_dnin, W_dlen, W_dkeys, W_dput', W_clear', W_try, W_tryGo, W_asSu, W_isX, W_nameX, W_startsT, W_strI, W_andI, W_orI, W_xorI, W_shlI, W_dmodI, W_bitsI, X_box, W_forK, W_eqK, W_dclear', W_rtN, W_ok, W_ex, W_bind, W_ofO, W_chk, W_op1, W_op2, W_op3, W_iteE, W_andE, W_orE, W_notE, W_chainE, W_addI, W_subI, W_mulI, W_divI, W_modI, W_negI, W_ltI, W_leI, W_gtI, W_geI, W_eqA, W_neA, W_inL, W_ninL, W_isNo, W_notNo, W_anyL, W_allL, W_sumL, W_lenL, W_min2, W_max2, W_intB, W_idxL, W_sizeL, W_catL, W_rng, W_addT, W_idxT, W_cutT, W_lenT, W_ltT, W_lcE, W_eqD, W_neD, W_inD, W_ninD, asT_enc, okD_enc, Bool.and_self, decide_eq_true_eq, Bool.not_eq_true', decide_eq_false_iff_not, true_and, and_true, if_true, if_false, Bool.false_eq_true, Bool.not_true, Bool.not_false, putB, putC, putN, gw_Groups_init, pw_Groups_init]
    exact ⟨_, rfl, _, rfl, rfl⟩
  refine gi.to fun _ w0 ew0 => ?_
  intro h eh v hv
  have g0 : GK f w0 h v 0 := by
    refine ⟨⟨[]⟩, fun _ => 1, ⟨by simp, by simp, fun n u z => (by cases z), by rw [hv]; rfl⟩, ?_, rfl, by decide, fun n u r z => (by cases z)⟩
    rw [hv, eh, ew0]
    rfl
  refine W_loop (fun pre (t : T_law) => ∃ a b c d e w M m, t = (some ⟨ns⟩, some (cellV ns 0), some h, some M, none, a, b, c, d, e, w) ∧ GK f w h M m) _ [] _ ⟨none, none, none, none, none, w0, v, 0, rfl, g0⟩ (fun pre cell post t he ⟨a, b, c, d, o, w, M, m, et, gk⟩ => ?_) (fun t ⟨a, b, c, d, e, w, M, m, et, gk⟩ => ?_)
  · subst et
    obtain ⟨U, dep, I, e, hk, hm, hf0⟩ := gk
    have hnames : M.kvs.map (·.1) = (List.range m).map f := by rw [I.mks, hk]
    have hlen : ((List.range m).map f).length = m := by rw [List.length_map, List.length_range]
    have isg : ∀ x, x ∈ (List.range m).map f ↔ IsG U x := fun x => by rw [isG_key, hk]
    have hul : U.kvs.length = m := by
      have := congrArg List.length hk
      rw [hlen, List.length_map] at this
      exact this
    have fresh : m ≤ 20 → ¬ IsG U (f m) := fun _ z => by
      obtain ⟨j, hj, ej⟩ := List.mem_map.mp ((isg _).mpr z)
      have hj := List.mem_range.mp hj
      have := finj j m (by omega) (by omega) ej
      omega
    have ml := I.mlen
    simp only [W_endF, W_endU, X_endX, X_endXU, W_asgX, W_dropX, W_retX, W_ifX, W_forX, X_ok, X_ex, X_liftX, X_xop1, X_xop2, X_xite, X_xand, X_xor, X_xnot, X_call, X_new, X_meth, X_mut, W_methR, W_isW, W_fldF, W_stoF, W_dputX, W_lputX, W_lInsert, W_lAppend, W_lExtend, W_lPopAt, W_lPop, W_dPop, W_dgetO, W_ltIS, W_isNU, W_notNU, W_raise, W_seq, W_asg, W_drop, W_ret, W_if, W_skip, W_brk, W_cnt, W_pre, W_for, W_app', W_retT', W_dget, W_din, W_dnin, W_dlen, W_dkeys, W_dput', W_clear', W_try, W_tryGo, W_asSu, W_isX, W_nameX, W_startsT, W_strI, W_andI, W_orI, W_xorI, W_shlI, W_dmodI, W_bitsI, X_box, W_forK, W_eqK, W_dclear', W_rtN, W_ok, W_ex, W_bind, W_ofO, W_chk, W_op1, W_op2, W_op3, W_iteE, W_andE, W_orE, W_notE, W_chainE, W_addI, W_subI, W_mulI, W_divI, W_modI, W_negI, W_ltI, W_leI, W_gtI, W_geI, W_eqA, W_neA, W_inL, W_ninL, W_isNo, W_notNo, W_anyL, W_allL, W_sumL, W_lenL, W_min2, W_max2, W_intB, W_idxL, W_sizeL, W_catL, W_rng, W_addT, W_idxT, W_cutT, W_lenT, W_ltT, W_lcE, W_eqD, W_neD, W_inD, W_ninD, asT_enc, okD_enc, Bool.and_self, decide_eq_true_eq, Bool.not_eq_true', decide_eq_false_iff_not, true_and, and_true, if_true, if_false, Bool.false_eq_true, Bool.not_true, Bool.not_false, putB, putC, putN]
    intro names hns
    rw [hnames] at hns
    subst hns
    have fin : ∀ (w' : List Wo) (M' : MD) (m' : Nat), GK f w' h M' m' → stands (h, M', ()) w' = .ok true := fun w' M' m' ⟨U', dep', I', e', _⟩ => stands_ok I' e'
    have deed : ∀ (x : Str) (bb : Bool), IsG U x → GK f (w.set h.i (.Groups (some U) (some (M.put x bb)))) h (M.put x bb) m := fun x bb g => ⟨U, dep, I.put g bb, set_get e, hk, hm, hf0⟩
    have nm0 : ∀ {x : Str}, x ∈ (List.range m).map f → M.kvs.length < sizeLn := fun _ => by omega
    apply if_or3 (by decide)
    · intro hc
      have hm15 : m ≤ 15 := by
        rcases hc with z | z
        · have := congrArg List.length z
          rw [hlen] at this
          simp at this
          omega
        · rw [hlen] at z
          omega
      intro above hab
      apply if_join (fun a : Option Str => (∀ p, a = some p → IsG U p) ∧ ((List.range m).map f = [] → a = none)) above
      · intro _
        rw [hab]
        exact ⟨fun p z => (nomatch z), fun _ => rfl⟩
      · rintro s ⟨s1, s2⟩
        apply if_join (fun a : Option Str => (∀ p, a = some p → IsG U p ∧ dep p ≤ 7) ∧ ((List.range m).map f = [] → a = none)) s
        · intro hs
          have e1 : s = none := by
            cases s with
            | none => rfl
            | some p => exact absurd rfl hs
          exact ⟨fun p z => (by rw [e1] at z; cases z), fun _ => e1⟩
        · rintro s ⟨t1, t2⟩
          rw [hlen, hf m (by omega)]
          simp only [W_endF, W_endU, X_endX, X_endXU, W_asgX, W_dropX, W_retX, W_ifX, W_forX, X_ok, X_ex, X_liftX, X_xop1, X_xop2, X_xite, X_xand, X_xor, X_xnot, X_call, X_new, X_meth, X_mut, W_methR, W_isW, W_fldF, W_stoF, W_dputX, W_lputX, W_lInsert, W_lAppend, W_lExtend, W_lPopAt, W_lPop, W_dPop, W_dgetO, W_ltIS, W_isNU, W_notNU, W_raise, W_seq, W_asg, W_drop, W_ret, W_if, W_skip, W_brk, W_cnt, W_pre, W_for, W_app', W_retT', W_dget, W_din, W_dnin, W_dlen, W_dkeys, W_dput', W_clear', W_try, W_tryGo, W_asSu, W_isX, W_nameX, W_startsT, W_strI, W_andI, W_orI, W_xorI, W_shlI, W_dmodI, W_bitsI, X_box, W_forK, W_eqK, W_dclear', W_rtN, W_ok, W_ex, W_bind, W_ofO, W_chk, W_op1, W_op2, W_op3, W_iteE, W_andE, W_orE, W_notE, W_chainE, W_addI, W_subI, W_mulI, W_divI, W_modI, W_negI, W_ltI, W_leI, W_gtI, W_geI, W_eqA, W_neA, W_inL, W_ninL, W_isNo, W_notNo, W_anyL, W_allL, W_sumL, W_lenL, W_min2, W_max2, W_intB, W_idxL, W_sizeL, W_catL, W_rng, W_addT, W_idxT, W_cutT, W_lenT, W_ltT, W_lcE, W_eqD, W_neD, W_inD, W_ninD, asT_enc, okD_enc, Bool.and_self, decide_eq_true_eq, Bool.not_eq_true', decide_eq_false_iff_not, true_and, and_true, if_true, if_false, Bool.false_eq_true, Bool.not_true, Bool.not_false, putB, putC, putN]
          intro nn hnn
          subst hnn
          refine ⟨_, e.row _, ?_⟩
          refine (add_ok I e (fresh (by omega)) s t1).to fun _ w' ew' => ?_
          refine ⟨by omega, ?_⟩
          have gk' : GK f w' h (M.put (f m) false) (m + 1) := by
            refine ⟨U.put (f m) s, _, I.add (fresh (by omega)) s t1 (by omega), by rw [ew']; exact set_get e, ?_, by omega, fun n u r z => ?_⟩
            · rw [keys_put, if_neg (not_key (fresh (by omega))), hk, List.range_succ, List.map_append]
              rfl
            · rw [show U.put (f m) s = ⟨U.kvs ++ [(f m, s)]⟩ from put_new (kvs := U.kvs) (not_key (fresh (by omega)))] at z
              cases hU : U.kvs with
              | nil =>
                rw [hU] at z
                have z : [(f m, s)] = (n, u) :: r := z
                cases z
                refine t2 ?_
                rw [← hk, hU]
                rfl
              | cons q r2 =>
                rw [hU] at z
                have z : q :: (r2 ++ [(f m, s)]) = (n, u) :: r := z
                cases z
                exact hf0 _ _ _ hU
          rw [fin _ _ _ gk']
          simp only [W_endF, W_endU, X_endX, X_endXU, W_asgX, W_dropX, W_retX, W_ifX, W_forX, X_ok, X_ex, X_liftX, X_xop1, X_xop2, X_xite, X_xand, X_xor, X_xnot, X_call, X_new, X_meth, X_mut, W_methR, W_isW, W_fldF, W_stoF, W_dputX, W_lputX, W_lInsert, W_lAppend, W_lExtend, W_lPopAt, W_lPop, W_dPop, W_dgetO, W_ltIS, W_isNU, W_notNU, W_raise, W_seq, W_asg, W_drop, W_ret, W_if, W_skip, W_brk, W_cnt, W_pre, W_for, W_app', W_retT', W_dget, W_din, W_dnin, W_dlen, W_dkeys, W_dput', W_clear', W_try, W_tryGo, W_asSu, W_isX, W_nameX, W_startsT, W_strI, W_andI, W_orI, W_xorI, W_shlI, W_dmodI, W_bitsI, X_box, W_forK, W_eqK, W_dclear', W_rtN, W_ok, W_ex, W_bind, W_ofO, W_chk, W_op1, W_op2, W_op3, W_iteE, W_andE, W_orE, W_notE, W_chainE, W_addI, W_subI, W_mulI, W_divI, W_modI, W_negI, W_ltI, W_leI, W_gtI, W_geI, W_eqA, W_neA, W_inL, W_ninL, W_isNo, W_notNo, W_anyL, W_allL, W_sumL, W_lenL, W_min2, W_max2, W_intB, W_idxL, W_sizeL, W_catL, W_rng, W_addT, W_idxT, W_cutT, W_lenT, W_ltT, W_lcE, W_eqD, W_neD, W_inD, W_ninD, asT_enc, okD_enc, Bool.and_self, decide_eq_true_eq, Bool.not_eq_true', decide_eq_false_iff_not, true_and, and_true, if_true, if_false, Bool.false_eq_true, Bool.not_true, Bool.not_false, putB, putC, putN]
          rw [if_neg (by decide)]
          exact ⟨_, _, _, _, _, _, _, _, rfl, gk'⟩
        · intro hs tail
          cases s with
          | none => cases hs
          | some p =>
            have gp := s1 p rfl
            have dp8 : dep p ≤ 8 := by
              obtain ⟨u, hu⟩ := gp
              exact (I.up p u hu).2.1
            obtain ⟨c1, _⟩ := chF_spec I 8 p gp (by omega)
            refine ⟨_, e.row _, ?_⟩
            simp only [W_endF, W_endU, X_endX, X_endXU, W_asgX, W_dropX, W_retX, W_ifX, W_forX, X_ok, X_ex, X_liftX, X_xop1, X_xop2, X_xite, X_xand, X_xor, X_xnot, X_call, X_new, X_meth, X_mut, W_methR, W_isW, W_fldF, W_stoF, W_dputX, W_lputX, W_lInsert, W_lAppend, W_lExtend, W_lPopAt, W_lPop, W_dPop, W_dgetO, W_ltIS, W_isNU, W_notNU, W_raise, W_seq, W_asg, W_drop, W_ret, W_if, W_skip, W_brk, W_cnt, W_pre, W_for, W_app', W_retT', W_dget, W_din, W_dnin, W_dlen, W_dkeys, W_dput', W_clear', W_try, W_tryGo, W_asSu, W_isX, W_nameX, W_startsT, W_strI, W_andI, W_orI, W_xorI, W_shlI, W_dmodI, W_bitsI, X_box, W_forK, W_eqK, W_dclear', W_rtN, W_ok, W_ex, W_bind, W_ofO, W_chk, W_op1, W_op2, W_op3, W_iteE, W_andE, W_orE, W_notE, W_chainE, W_addI, W_subI, W_mulI, W_divI, W_modI, W_negI, W_ltI, W_leI, W_gtI, W_geI, W_eqA, W_neA, W_inL, W_ninL, W_isNo, W_notNo, W_anyL, W_allL, W_sumL, W_lenL, W_min2, W_max2, W_intB, W_idxL, W_sizeL, W_catL, W_rng, W_addT, W_idxT, W_cutT, W_lenT, W_ltT, W_lcE, W_eqD, W_neD, W_inD, W_ninD, asT_enc, okD_enc, Bool.and_self, decide_eq_true_eq, Bool.not_eq_true', decide_eq_false_iff_not, true_and, and_true, if_true, if_false, Bool.false_eq_true, Bool.not_true, Bool.not_false, putB, putC, putN]
            rw [chain_ok I e gp]
            simp only [W_endF, W_endU, X_endX, X_endXU, W_asgX, W_dropX, W_retX, W_ifX, W_forX, X_ok, X_ex, X_liftX, X_xop1, X_xop2, X_xite, X_xand, X_xor, X_xnot, X_call, X_new, X_meth, X_mut, W_methR, W_isW, W_fldF, W_stoF, W_dputX, W_lputX, W_lInsert, W_lAppend, W_lExtend, W_lPopAt, W_lPop, W_dPop, W_dgetO, W_ltIS, W_isNU, W_notNU, W_raise, W_seq, W_asg, W_drop, W_ret, W_if, W_skip, W_brk, W_cnt, W_pre, W_for, W_app', W_retT', W_dget, W_din, W_dnin, W_dlen, W_dkeys, W_dput', W_clear', W_try, W_tryGo, W_asSu, W_isX, W_nameX, W_startsT, W_strI, W_andI, W_orI, W_xorI, W_shlI, W_dmodI, W_bitsI, X_box, W_forK, W_eqK, W_dclear', W_rtN, W_ok, W_ex, W_bind, W_ofO, W_chk, W_op1, W_op2, W_op3, W_iteE, W_andE, W_orE, W_notE, W_chainE, W_addI, W_subI, W_mulI, W_divI, W_modI, W_negI, W_ltI, W_leI, W_gtI, W_geI, W_eqA, W_neA, W_inL, W_ninL, W_isNo, W_notNo, W_anyL, W_allL, W_sumL, W_lenL, W_min2, W_max2, W_intB, W_idxL, W_sizeL, W_catL, W_rng, W_addT, W_idxT, W_cutT, W_lenT, W_ltT, W_lcE, W_eqD, W_neD, W_inD, W_ninD, asT_enc, okD_enc, Bool.and_self, decide_eq_true_eq, Bool.not_eq_true', decide_eq_false_iff_not, true_and, and_true, if_true, if_false, Bool.false_eq_true, Bool.not_true, Bool.not_false, putB, putC, putN]
            split
            · cases hU : U.kvs with
              | nil =>
                have := isG_key.mp gp
                rw [hU] at this
                cases this
              | cons q r =>
                obtain ⟨q1, q2⟩ := q
                have hnm : (List.range m).map f = q1 :: r.map (·.1) := by rw [← hk, hU]; rfl
                have gq : U.get q1 = some q2 := getK_of I.nd (by rw [hU]; exact .head _)
                have hq2 := hf0 _ _ _ hU
                refine ⟨q1, by rw [hnm]; exact atI_nat (by decide) rfl, fun v2 hv2 => tail v2 ⟨fun p2 z => ?_, fun z => ?_⟩⟩
                · rw [hv2] at z
                  cases z
                  have := (I.up q1 q2 gq).2.2.1 hq2
                  exact ⟨⟨_, gq⟩, by omega⟩
                · rw [hnm] at z
                  cases z
            · exact tail (some p) ⟨fun p2 z => (by cases z; exact ⟨gp, by omega⟩), s2⟩
      · intro hne tail
        refine ⟨DivOk.of ⟨by decide, by decide⟩, by decide, ?_⟩
        split
        · refine ⟨DivOk.of ⟨by decide, by decide⟩, ?_⟩
          obtain ⟨x, ex, hx⟩ := named_ok hne (cell / 30)
          rw [ex]
          simp only [W_endF, W_endU, X_endX, X_endXU, W_asgX, W_dropX, W_retX, W_ifX, W_forX, X_ok, X_ex, X_liftX, X_xop1, X_xop2, X_xite, X_xand, X_xor, X_xnot, X_call, X_new, X_meth, X_mut, W_methR, W_isW, W_fldF, W_stoF, W_dputX, W_lputX, W_lInsert, W_lAppend, W_lExtend, W_lPopAt, W_lPop, W_dPop, W_dgetO, W_ltIS, W_isNU, W_notNU, W_raise, W_seq, W_asg, W_drop, W_ret, W_if, W_skip, W_brk, W_cnt, W_pre, W_for, W_app', W_retT', W_dget, W_din, W_dnin, W_dlen, W_dkeys, W_dput', W_clear', W_try, W_tryGo, W_asSu, W_isX, W_nameX, W_startsT, W_strI, W_andI, W_orI, W_xorI, W_shlI, W_dmodI, W_bitsI, X_box, W_forK, W_eqK, W_dclear', W_rtN, W_ok, W_ex, W_bind, W_ofO, W_chk, W_op1, W_op2, W_op3, W_iteE, W_andE, W_orE, W_notE, W_chainE, W_addI, W_subI, W_mulI, W_divI, W_modI, W_negI, W_ltI, W_leI, W_gtI, W_geI, W_eqA, W_neA, W_inL, W_ninL, W_isNo, W_notNo, W_anyL, W_allL, W_sumL, W_lenL, W_min2, W_max2, W_intB, W_idxL, W_sizeL, W_catL, W_rng, W_addT, W_idxT, W_cutT, W_lenT, W_ltT, W_lcE, W_eqD, W_neD, W_inD, W_ninD, asT_enc, okD_enc, Bool.and_self, decide_eq_true_eq, Bool.not_eq_true', decide_eq_false_iff_not, true_and, and_true, if_true, if_false, Bool.false_eq_true, Bool.not_true, Bool.not_false, putB, putC, putN]
          intro v2 hv2
          exact tail v2 ⟨fun p z => (by rw [hv2] at z; cases z; exact (isg _).mp hx), fun z => absurd z hne⟩
        · exact tail above ⟨fun p z => (by rw [hab] at z; cases z), fun _ => hab⟩
    · intro hne
      refine ⟨by decide, ?_⟩
      split
      · refine ⟨DivOk.of ⟨by decide, by decide⟩, ?_⟩
        obtain ⟨x, ex, hx⟩ := named_ok hne (cell / 5)
        rw [ex]
        simp only [W_endF, W_endU, X_endX, X_endXU, W_asgX, W_dropX, W_retX, W_ifX, W_forX, X_ok, X_ex, X_liftX, X_xop1, X_xop2, X_xite, X_xand, X_xor, X_xnot, X_call, X_new, X_meth, X_mut, W_methR, W_isW, W_fldF, W_stoF, W_dputX, W_lputX, W_lInsert, W_lAppend, W_lExtend, W_lPopAt, W_lPop, W_dPop, W_dgetO, W_ltIS, W_isNU, W_notNU, W_raise, W_seq, W_asg, W_drop, W_ret, W_if, W_skip, W_brk, W_cnt, W_pre, W_for, W_app', W_retT', W_dget, W_din, W_dnin, W_dlen, W_dkeys, W_dput', W_clear', W_try, W_tryGo, W_asSu, W_isX, W_nameX, W_startsT, W_strI, W_andI, W_orI, W_xorI, W_shlI, W_dmodI, W_bitsI, X_box, W_forK, W_eqK, W_dclear', W_rtN, W_ok, W_ex, W_bind, W_ofO, W_chk, W_op1, W_op2, W_op3, W_iteE, W_andE, W_orE, W_notE, W_chainE, W_addI, W_subI, W_mulI, W_divI, W_modI, W_negI, W_ltI, W_leI, W_gtI, W_geI, W_eqA, W_neA, W_inL, W_ninL, W_isNo, W_notNo, W_anyL, W_allL, W_sumL, W_lenL, W_min2, W_max2, W_intB, W_idxL, W_sizeL, W_catL, W_rng, W_addT, W_idxT, W_cutT, W_lenT, W_ltT, W_lcE, W_eqD, W_neD, W_inD, W_ninD, asT_enc, okD_enc, Bool.and_self, decide_eq_true_eq, Bool.not_eq_true', decide_eq_false_iff_not, true_and, and_true, if_true, if_false, Bool.false_eq_true, Bool.not_true, Bool.not_false, putB, putC, putN]
        intro v2 hv2
        subst hv2
        have gx := (isg _).mp hx
        refine ⟨_, e.row _, ?_⟩
        refine (sleep_ok I e gx).to fun _ w' ew' => ?_
        refine ⟨by omega, ?_⟩
        have gk' := deed v2 true gx
        rw [ew', fin _ _ _ gk']
        simp only [W_endF, W_endU, X_endX, X_endXU, W_asgX, W_dropX, W_retX, W_ifX, W_forX, X_ok, X_ex, X_liftX, X_xop1, X_xop2, X_xite, X_xand, X_xor, X_xnot, X_call, X_new, X_meth, X_mut, W_methR, W_isW, W_fldF, W_stoF, W_dputX, W_lputX, W_lInsert, W_lAppend, W_lExtend, W_lPopAt, W_lPop, W_dPop, W_dgetO, W_ltIS, W_isNU, W_notNU, W_raise, W_seq, W_asg, W_drop, W_ret, W_if, W_skip, W_brk, W_cnt, W_pre, W_for, W_app', W_retT', W_dget, W_din, W_dnin, W_dlen, W_dkeys, W_dput', W_clear', W_try, W_tryGo, W_asSu, W_isX, W_nameX, W_startsT, W_strI, W_andI, W_orI, W_xorI, W_shlI, W_dmodI, W_bitsI, X_box, W_forK, W_eqK, W_dclear', W_rtN, W_ok, W_ex, W_bind, W_ofO, W_chk, W_op1, W_op2, W_op3, W_iteE, W_andE, W_orE, W_notE, W_chainE, W_addI, W_subI, W_mulI, W_divI, W_modI, W_negI, W_ltI, W_leI, W_gtI, W_geI, W_eqA, W_neA, W_inL, W_ninL, W_isNo, W_notNo, W_anyL, W_allL, W_sumL, W_lenL, W_min2, W_max2, W_intB, W_idxL, W_sizeL, W_catL, W_rng, W_addT, W_idxT, W_cutT, W_lenT, W_ltT, W_lcE, W_eqD, W_neD, W_inD, W_ninD, asT_enc, okD_enc, Bool.and_self, decide_eq_true_eq, Bool.not_eq_true', decide_eq_false_iff_not, true_and, and_true, if_true, if_false, Bool.false_eq_true, Bool.not_true, Bool.not_false, putB, putC, putN]
        rw [if_neg (by decide)]
        exact ⟨_, _, _, _, _, _, _, _, rfl, gk'⟩
      · refine ⟨DivOk.of ⟨by decide, by decide⟩, ?_⟩
        obtain ⟨x, ex, hx⟩ := named_ok hne (cell / 5)
        rw [ex]
        simp only [W_endF, W_endU, X_endX, X_endXU, W_asgX, W_dropX, W_retX, W_ifX, W_forX, X_ok, X_ex, X_liftX, X_xop1, X_xop2, X_xite, X_xand, X_xor, X_xnot, X_call, X_new, X_meth, X_mut, W_methR, W_isW, W_fldF, W_stoF, W_dputX, W_lputX, W_lInsert, W_lAppend, W_lExtend, W_lPopAt, W_lPop, W_dPop, W_dgetO, W_ltIS, W_isNU, W_notNU, W_raise, W_seq, W_asg, W_drop, W_ret, W_if, W_skip, W_brk, W_cnt, W_pre, W_for, W_app', W_retT', W_dget, W_din, W_dnin, W_dlen, W_dkeys, W_dput', W_clear', W_try, W_tryGo, W_asSu, W_isX, W_nameX, W_startsT, W_strI, W_andI, W_orI, W_xorI, W_shlI, W_dmodI, W_bitsI, X_box, W_forK, W_eqK, W_dclear', W_rtN, W_ok, W_ex, W_bind, W_ofO, W_chk, W_op1, W_op2, W_op3, W_iteE, W_andE, W_orE, W_notE, W_chainE, W_addI, W_subI, W_mulI, W_divI, W_modI, W_negI, W_ltI, W_leI, W_gtI, W_geI, W_eqA, W_neA, W_inL, W_ninL, W_isNo, W_notNo, W_anyL, W_allL, W_sumL, W_lenL, W_min2, W_max2, W_intB, W_idxL, W_sizeL, W_catL, W_rng, W_addT, W_idxT, W_cutT, W_lenT, W_ltT, W_lcE, W_eqD, W_neD, W_inD, W_ninD, asT_enc, okD_enc, Bool.and_self, decide_eq_true_eq, Bool.not_eq_true', decide_eq_false_iff_not, true_and, and_true, if_true, if_false, Bool.false_eq_true, Bool.not_true, Bool.not_false, putB, putC, putN]
        intro v2 hv2
        refine ⟨DivOk.of ⟨by decide, by decide⟩, by decide, ?_⟩
        apply if_join (fun y : Str => IsG U y) v2
        · intro _
          rw [hv2]
          exact (isg _).mp hx
        · intro y gy
          refine ⟨_, e.row _, ?_⟩
          refine (wake_ok I e gy).to fun _ w' ew' => ?_
          refine ⟨by omega, ?_⟩
          have gk' := deed y false gy
          rw [ew', fin _ _ _ gk']
          simp only [W_endF, W_endU, X_endX, X_endXU, W_asgX, W_dropX, W_retX, W_ifX, W_forX, X_ok, X_ex, X_liftX, X_xop1, X_xop2, X_xite, X_xand, X_xor, X_xnot, X_call, X_new, X_meth, X_mut, W_methR, W_isW, W_fldF, W_stoF, W_dputX, W_lputX, W_lInsert, W_lAppend, W_lExtend, W_lPopAt, W_lPop, W_dPop, W_dgetO, W_ltIS, W_isNU, W_notNU, W_raise, W_seq, W_asg, W_drop, W_ret, W_if, W_skip, W_brk, W_cnt, W_pre, W_for, W_app', W_retT', W_dget, W_din, W_dnin, W_dlen, W_dkeys, W_dput', W_clear', W_try, W_tryGo, W_asSu, W_isX, W_nameX, W_startsT, W_strI, W_andI, W_orI, W_xorI, W_shlI, W_dmodI, W_bitsI, X_box, W_forK, W_eqK, W_dclear', W_rtN, W_ok, W_ex, W_bind, W_ofO, W_chk, W_op1, W_op2, W_op3, W_iteE, W_andE, W_orE, W_notE, W_chainE, W_addI, W_subI, W_mulI, W_divI, W_modI, W_negI, W_ltI, W_leI, W_gtI, W_geI, W_eqA, W_neA, W_inL, W_ninL, W_isNo, W_notNo, W_anyL, W_allL, W_sumL, W_lenL, W_min2, W_max2, W_intB, W_idxL, W_sizeL, W_catL, W_rng, W_addT, W_idxT, W_cutT, W_lenT, W_ltT, W_lcE, W_eqD, W_neD, W_inD, W_ninD, asT_enc, okD_enc, Bool.and_self, decide_eq_true_eq, Bool.not_eq_true', decide_eq_false_iff_not, true_and, and_true, if_true, if_false, Bool.false_eq_true, Bool.not_true, Bool.not_false, putB, putC, putN]
          rw [if_neg (by decide)]
          exact ⟨_, _, _, _, _, _, _, _, rfl, gk'⟩
        · intro _ tail
          obtain ⟨n0, nr, hn0⟩ : ∃ n0 nr, (List.range m).map f = n0 :: nr := by
            cases hx2 : (List.range m).map f with
            | nil => exact absurd hx2 hne
            | cons a b => exact ⟨a, b, rfl⟩
          refine W_lcR (fun x => (M.get x).getD false || decide (x = n0)) (fun x => x) (fun x hx2 => ?_) (fun x _ _ => by simp only [W_endF, W_endU, X_endX, X_endXU, W_asgX, W_dropX, W_retX, W_ifX, W_forX, X_ok, X_ex, X_liftX, X_xop1, X_xop2, X_xite, X_xand, X_xor, X_xnot, X_call, X_new, X_meth, X_mut, W_methR, W_isW, W_fldF, W_stoF, W_dputX, W_lputX, W_lInsert, W_lAppend, W_lExtend, W_lPopAt, W_lPop, W_dPop, W_dgetO, W_ltIS, W_isNU, W_notNU, W_raise, W_seq, W_asg, W_drop, W_ret, W_if, W_skip, W_brk, W_cnt, W_pre, W_for, W_app', W_retT', W_dget, W_din, W_dnin, W_dlen, W_dkeys, W_dput', W_clear', W_try, W_tryGo, W_asSu, W_isX, W_nameX, W_startsT, W_strI, W_andI, W_orI, W_xorI, W_shlI, W_dmodI, W_bitsI, X_box, W_forK, W_eqK, W_dclear', W_rtN, W_ok, W_ex, W_bind, W_ofO, W_chk, W_op1, W_op2, W_op3, W_iteE, W_andE, W_orE, W_notE, W_chainE, W_addI, W_subI, W_mulI, W_divI, W_modI, W_negI, W_ltI, W_leI, W_gtI, W_geI, W_eqA, W_neA, W_inL, W_ninL, W_isNo, W_notNo, W_anyL, W_allL, W_sumL, W_lenL, W_min2, W_max2, W_intB, W_idxL, W_sizeL, W_catL, W_rng, W_addT, W_idxT, W_cutT, W_lenT, W_ltT, W_lcE, W_eqD, W_neD, W_inD, W_ninD, asT_enc, okD_enc, Bool.and_self, decide_eq_true_eq, Bool.not_eq_true', decide_eq_false_iff_not, true_and, and_true, if_true, if_false, Bool.false_eq_true, Bool.not_true, Bool.not_false, putB, putC, putN]) ?_
          · obtain ⟨b2, hb2⟩ := I.mark ((isg x).mp hx2)
            simp only [W_endF, W_endU, X_endX, X_endXU, W_asgX, W_dropX, W_retX, W_ifX, W_forX, X_ok, X_ex, X_liftX, X_xop1, X_xop2, X_xite, X_xand, X_xor, X_xnot, X_call, X_new, X_meth, X_mut, W_methR, W_isW, W_fldF, W_stoF, W_dputX, W_lputX, W_lInsert, W_lAppend, W_lExtend, W_lPopAt, W_lPop, W_dPop, W_dgetO, W_ltIS, W_isNU, W_notNU, W_raise, W_seq, W_asg, W_drop, W_ret, W_if, W_skip, W_brk, W_cnt, W_pre, W_for, W_app', W_retT', W_dget, W_din, W_dnin, W_dlen, W_dkeys, W_dput', W_clear', W_try, W_tryGo, W_asSu, W_isX, W_nameX, W_startsT, W_strI, W_andI, W_orI, W_xorI, W_shlI, W_dmodI, W_bitsI, X_box, W_forK, W_eqK, W_dclear', W_rtN, W_ok, W_ex, W_bind, W_ofO, W_chk, W_op1, W_op2, W_op3, W_iteE, W_andE, W_orE, W_notE, W_chainE, W_addI, W_subI, W_mulI, W_divI, W_modI, W_negI, W_ltI, W_leI, W_gtI, W_geI, W_eqA, W_neA, W_inL, W_ninL, W_isNo, W_notNo, W_anyL, W_allL, W_sumL, W_lenL, W_min2, W_max2, W_intB, W_idxL, W_sizeL, W_catL, W_rng, W_addT, W_idxT, W_cutT, W_lenT, W_ltT, W_lcE, W_eqD, W_neD, W_inD, W_ninD, asT_enc, okD_enc, Bool.and_self, decide_eq_true_eq, Bool.not_eq_true', decide_eq_false_iff_not, true_and, and_true, if_true, if_false, Bool.false_eq_true, Bool.not_true, Bool.not_false, putB, putC, putN]
            refine ⟨b2, hb2, ?_⟩
            rw [hb2]
            cases b2 with
            | true => rw [if_pos rfl]; rfl
            | false =>
              rw [if_neg (by decide), hn0]
              exact ⟨n0, atI_nat (by decide) rfl, by simp⟩
          · refine ⟨?_, ?_⟩
            · rw [List.length_map]
              have := List.length_filter_le (fun x => (M.get x).getD false || decide (x = n0)) ((List.range m).map f)
              rw [hlen] at this
              omega
            · rw [List.map_id']
              generalize hL : List.filter _ ((List.range m).map f) = L
              have hne2 : L ≠ [] := by
                intro z
                have h1 : n0 ∈ L := by
                  rw [← hL, List.mem_filter]
                  exact ⟨by rw [hn0]; simp, by simp⟩
                rw [z] at h1
                cases h1
              obtain ⟨y, hy⟩ : ∃ y, L.getLast? = some y := by
                cases h : L.getLast? with
                | none => exact absurd (List.getLast?_eq_none_iff.mp h) hne2
                | some x => exact ⟨x, rfl⟩
              obtain ⟨pre2, epre⟩ := List.getLast?_eq_some_iff.mp hy
              refine ⟨y, by rw [epre]; exact last1, fun v3 hv3 => tail v3 ?_⟩
              have h1 : y ∈ L := by rw [epre]; simp
              rw [← hL, List.mem_filter] at h1
              rw [hv3]
              exact (isg _).mp h1.1
  · subst et
    simp only [W_endF, W_endU, X_endX, X_endXU, W_asgX, W_dropX, W_retX, W_ifX, W_forX, X_ok, X_ex, X_liftX, X_xop1, X_xop2, X_xite, X_xand, X_xor, X_xnot, X_call, X_new, X_meth, X_mut, W_methR, W_isW, W_fldF, W_stoF, W_dputX, W_lputX, W_lInsert, W_lAppend, W_lExtend, W_lPopAt, W_lPop, W_dPop, W_dgetO, W_ltIS, W_isNU, W_notNU, W_raise, W_seq, W_asg, W_drop, W_ret, W_if, W_skip, W_brk, W_cnt, W_pre, W_for, W_app', W_retT', W_dget, W_din, W_dnin, W_dlen, W_dkeys, W_dput', W_clear', W_try, W_tryGo, W_asSu, W_isX, W_nameX, W_startsT, W_strI, W_andI, W_orI, W_xorI, W_shlI, W_dmodI, W_bitsI, X_box, W_forK, W_eqK, W_dclear', W_rtN, W_ok, W_ex, W_bind, W_ofO, W_chk, W_op1, W_op2, W_op3, W_iteE, W_andE, W_orE, W_notE, W_chainE, W_addI, W_subI, W_mulI, W_divI, W_modI, W_negI, W_ltI, W_leI, W_gtI, W_geI, W_eqA, W_neA, W_inL, W_ninL, W_isNo, W_notNo, W_anyL, W_allL, W_sumL, W_lenL, W_min2, W_max2, W_intB, W_idxL, W_sizeL, W_catL, W_rng, W_addT, W_idxT, W_cutT, W_lenT, W_ltT, W_lcE, W_eqD, W_neD, W_inD, W_ninD, asT_enc, okD_enc, Bool.and_self, decide_eq_true_eq, Bool.not_eq_true', decide_eq_false_iff_not, true_and, and_true, if_true, if_false, Bool.false_eq_true, Bool.not_true, Bool.not_false, putB, putC, putN]
theorem law_true (ns : List Int) (hn : ns.length ≤ 63) : ∃ w', law (⟨ns⟩, ()) [] = .ok true w' := by
  obtain ⟨a, t, e, h⟩ := ok_of_X (law_ok ns)
  exact ⟨t, by rw [e, show a = true from h]⟩
end M

namespace M
open PySem PySem.Spec PyProof.Rows L2 W
abbrev tbs (K : PySem.W.Frag) : TL := ⟨[], false⟩
abbrev tbw (K : PySem.W.Frag) : TL := ⟨(tbs K).tabs, true⟩
end M
namespace W
open PySem PySem.Spec PyProof.Rows L2
def top (i : Nat) : Stmt := PySem.Challenge.pw_wakefew_k23_awake_by_marks.main.body.getD i (.Pass ⟨0, 0, 0, 0⟩)
abbrev s_cell_at : Stmt := top 10
abbrev s_Groups_init : Stmt := inClass (top 8) 0
abbrev s_named : Stmt := top 12
abbrev s_Groups_sure : Stmt := inClass (top 8) 2
abbrev s_Groups_chain : Stmt := inClass (top 8) 4
abbrev s_name : Stmt := top 11
abbrev s_Groups_add : Stmt := inClass (top 8) 3
abbrev s_Groups_gathered : Stmt := inClass (top 8) 5
abbrev s_Groups_within : Stmt := inClass (top 8) 6
abbrev s_Groups_awake : Stmt := inClass (top 8) 8
abbrev s_Groups_put_mark : Stmt := inClass (top 8) 9
abbrev s_Groups_sleep : Stmt := inClass (top 8) 10
abbrev s_Groups_wake : Stmt := inClass (top 8) 11
abbrev s_Groups_marked : Stmt := inClass (top 8) 7
abbrev s_truth_is : Stmt := top 13
abbrev s_stands : Stmt := top 14
abbrev s_law : Stmt := top 15
abbrev s_NoGroup_init : Stmt := inClass (top 4) 0
abbrev s_Twice_init : Stmt := inClass (top 3) 0
abbrev s_TooDeep_init : Stmt := inClass (top 5) 0
structure Txt (K : PySem.W.Frag) (mg : Str → Option Value) : Prop where
  z_len : mg "len" = none
  c_Groups : Cls K (He.ga K "Groups")
  n_Groups_uppers : NoAttr K (He.ga K "Groups") "uppers"
  n_Groups_marks : NoAttr K (He.ga K "Groups") "marks"
  z_list : mg "list" = none
  xi_NoGroup : M.ExcI K (He.ga K "NoGroup") (He.fAd K ("NoGroup", some "__init__"))
  d_NoGroup_init : FnT K ("NoGroup", some "__init__") "__init__" "NoGroup.__init__" s_NoGroup_init []
  g_WakeError : mg "WakeError" = some (.ref (He.ga K "WakeError"))
  ve_WakeError : M.ClsVe K (He.ga K "WakeError")
  g_NoGroup : mg "NoGroup" = some (.ref (He.ga K "NoGroup"))
  d_Groups_sure : FnT K ("Groups", some "sure") "sure" "Groups.sure" s_Groups_sure []
  m_Groups_sure : Meth K (He.ga K "Groups") "sure" (He.fAd K ("Groups", some "sure"))
  v_DEEPEST : ∃ t, mg "DEEPEST" = some (.int 8 t)
  xi_Twice : M.ExcI K (He.ga K "Twice") (He.fAd K ("Twice", some "__init__"))
  d_Twice_init : FnT K ("Twice", some "__init__") "__init__" "Twice.__init__" s_Twice_init []
  g_Twice : mg "Twice" = some (.ref (He.ga K "Twice"))
  d_Groups_chain : FnT K ("Groups", some "chain") "chain" "Groups.chain" s_Groups_chain []
  m_Groups_chain : Meth K (He.ga K "Groups") "chain" (He.fAd K ("Groups", some "chain"))
  xi_TooDeep : M.ExcI K (He.ga K "TooDeep") (He.fAd K ("TooDeep", some "__init__"))
  d_TooDeep_init : FnT K ("TooDeep", some "__init__") "__init__" "TooDeep.__init__" s_TooDeep_init []
  g_TooDeep : mg "TooDeep" = some (.ref (He.ga K "TooDeep"))
  m_Groups_gathered : Meth K (He.ga K "Groups") "gathered" (He.fAd K ("Groups", some "gathered"))
  z_sorted : mg "sorted" = none
  d_Groups_gathered : FnT K ("Groups", some "gathered") "gathered" "Groups.gathered" s_Groups_gathered []
  z_any : mg "any" = none
  d_Groups_within : FnT K ("Groups", some "within") "within" "Groups.within" s_Groups_within []
  m_Groups_within : Meth K (He.ga K "Groups") "within" (He.fAd K ("Groups", some "within"))
  d_Groups_awake : FnT K ("Groups", some "awake") "awake" "Groups.awake" s_Groups_awake []
  m_Groups_awake : Meth K (He.ga K "Groups") "awake" (He.fAd K ("Groups", some "awake"))
  d_Groups_put_mark : FnT K ("Groups", some "put_mark") "put_mark" "Groups.put_mark" s_Groups_put_mark []
  m_Groups_put_mark : Meth K (He.ga K "Groups") "put_mark" (He.fAd K ("Groups", some "put_mark"))
  z_bool : mg "bool" = none
  z_isinstance : mg "isinstance" = none
  d_Groups_marked : FnT K ("Groups", some "marked") "marked" "Groups.marked" s_Groups_marked []
  m_Groups_marked : Meth K (He.ga K "Groups") "marked" (He.fAd K ("Groups", some "marked"))
  d_truth_is : FnT K ("_law_truth_is", none) "_law_truth_is" "_law_truth_is" s_truth_is []
  g_truth_is : mg "_law_truth_is" = some (.ref (He.ga K "_law_truth_is"))
  d_cell_at : FnT K ("_law_cell_at", none) "_law_cell_at" "_law_cell_at" s_cell_at []
  g_cell_at : mg "_law_cell_at" = some (.ref (He.ga K "_law_cell_at"))
  d_Groups_init : FnT K ("Groups", some "__init__") "__init__" "Groups.__init__" s_Groups_init []
  g_Groups : mg "Groups" = some (.ref (He.ga K "Groups"))
  k_Groups : Mk K (He.ga K "Groups") (He.fAd K ("Groups", some "__init__"))
  d_named : FnT K ("_law_named", none) "_law_named" "_law_named" s_named []
  g_named : mg "_law_named" = some (.ref (He.ga K "_law_named"))
  d_name : FnT K ("_law_name", none) "_law_name" "_law_name" s_name []
  g_name : mg "_law_name" = some (.ref (He.ga K "_law_name"))
  d_Groups_add : FnT K ("Groups", some "add") "add" "Groups.add" s_Groups_add [.non]
  m_Groups_add : Meth K (He.ga K "Groups") "add" (He.fAd K ("Groups", some "add"))
  d_Groups_sleep : FnT K ("Groups", some "sleep") "sleep" "Groups.sleep" s_Groups_sleep []
  m_Groups_sleep : Meth K (He.ga K "Groups") "sleep" (He.fAd K ("Groups", some "sleep"))
  d_Groups_wake : FnT K ("Groups", some "wake") "wake" "Groups.wake" s_Groups_wake []
  m_Groups_wake : Meth K (He.ga K "Groups") "wake" (He.fAd K ("Groups", some "wake"))
  d_stands : FnT K ("_law_stands", none) "_law_stands" "_law_stands" s_stands []
  g_stands : mg "_law_stands" = some (.ref (He.ga K "_law_stands"))
  d_law : FnT K ("law", none) "law" "law" s_law []
  g_law : mg "law" = some (.ref (He.ga K "law"))
end W
namespace M
open PySem PySem.Spec PyProof.Rows L2 W
theorem fl_uppers : Fld (ω := Wo) ["Groups"] "uppers" (Enc.enc : (Dct PySem.Str (Option PySem.Str)) → M.D) Wo.get_uppers := ⟨fun {o a} h => by
  cases o with
  | Groups x0 x1 => (have h : x0 = some a := h; subst h; exact ⟨_, _, rfl, .head _, rfl⟩)⟩
theorem fm_uppers : FldM (ω := Wo) ["Groups"] "uppers" (Enc.enc : (Dct PySem.Str (Option PySem.Str)) → M.D) Wo.get_uppers Wo.put_uppers := ⟨fun {o a} h => by
  cases o with
  | Groups x0 x1 => (have h : x0 = some a := h; subst h; exact ⟨_, _, rfl, .head _, rfl, fun _ => rfl⟩)⟩
theorem fs_uppers : FldS (ω := Wo) ["Groups"] "uppers" (Enc.enc : (Dct PySem.Str (Option PySem.Str)) → M.D) Wo.set_uppers := ⟨fun {o o2 a} h => by
  cases o with
  | Groups x0 x1 => (unfold Wo.set_uppers at h; dsimp only at h; split at h; (rename_i hc; cases h; exact ⟨_, _, rfl, .head _, (by cases x0 <;> cases x1 <;> first | rfl | cases hc), (show 2 < 900 from by decide), rfl⟩); cases h)⟩
theorem fl_marks : Fld (ω := Wo) ["Groups"] "marks" (Enc.enc : (Dct PySem.Str Bool) → M.D) Wo.get_marks := ⟨fun {o a} h => by
  cases o with
  | Groups x0 x1 => (have h : x1 = some a := h; subst h; exact ⟨_, _, rfl, .head _, rfl⟩)⟩
theorem fm_marks : FldM (ω := Wo) ["Groups"] "marks" (Enc.enc : (Dct PySem.Str Bool) → M.D) Wo.get_marks Wo.put_marks := ⟨fun {o a} h => by
  cases o with
  | Groups x0 x1 => (have h : x1 = some a := h; subst h; exact ⟨_, _, rfl, .head _, rfl, fun _ => rfl⟩)⟩
theorem fs_marks : FldS (ω := Wo) ["Groups"] "marks" (Enc.enc : (Dct PySem.Str Bool) → M.D) Wo.set_marks := ⟨fun {o o2 a} h => by
  cases o with
  | Groups x0 x1 => (unfold Wo.set_marks at h; dsimp only at h; split at h; (rename_i hc; cases h; exact ⟨_, _, rfl, .head _, (by cases x1 <;> first | rfl | cases hc), (show 2 < 900 from by decide), rfl⟩); cases h)⟩
theorem nf_add : NoFld Wo "add" := fun o c fs e => by
  cases o <;> (cases e; rfl)
theorem nf_awake : NoFld Wo "awake" := fun o c fs e => by
  cases o <;> (cases e; rfl)
theorem nf_chain : NoFld Wo "chain" := fun o c fs e => by
  cases o <;> (cases e; rfl)
theorem nf_gathered : NoFld Wo "gathered" := fun o c fs e => by
  cases o <;> (cases e; rfl)
theorem nf_marked : NoFld Wo "marked" := fun o c fs e => by
  cases o <;> (cases e; rfl)
theorem nf_put_mark : NoFld Wo "put_mark" := fun o c fs e => by
  cases o <;> (cases e; rfl)
theorem nf_sleep : NoFld Wo "sleep" := fun o c fs e => by
  cases o <;> (cases e; rfl)
theorem nf_sure : NoFld Wo "sure" := fun o c fs e => by
  cases o <;> (cases e; rfl)
theorem nf_wake : NoFld Wo "wake" := fun o c fs e => by
  cases o <;> (cases e; rfl)
theorem nf_within : NoFld Wo "within" := fun o c fs e => by
  cases o <;> (cases e; rfl)
section
variable {P : Program} {w : World} {K : PySem.W.Frag} {mg : Str → Option Value} {base : Heap}
theorem sc_NoGroup_init : FnScope ["self", "name"] ["self", "name"] (defScope s_NoGroup_init) := ⟨rfl, rfl, rfl, by decide +kernel, rfl, by decide +kernel, by decide +kernel⟩
theorem okx_NoGroup (T : Txt K mg) : FnOk P w K mg base L2.CX0 1 (He.fAd K ("NoGroup", some "__init__")) (fdOf K ("NoGroup", some "__init__")) ["self", "name"] (spXI K (He.ga K "NoGroup")) := by
  refine T.d_NoGroup_init.ok sc_NoGroup_init (fun vs H Q E ⟨a, z, e, _⟩ => by rw [e]; rfl) fun cdv A outer s H vs Q E hr h => ⟨_, pss_cons (ps_expr (pe_veinitC T.ve_WakeError rfl T.g_WakeError (pa_cons (pv 0) (pa_cons pe_str pa_nil)))) (pss_one (ps_ost (pv 0) (pv 1))), excInit_rd2 T.xi_NoGroup h⟩
theorem bx_NoGroup (T : Txt K mg) : Binds K (fdOf K ("NoGroup", some "__init__")) ["self", "name"] [] := T.d_NoGroup_init.bindsN fun _ _ _ _ _ _ us hl => match us, hl with | [_, _], _ => rfl
theorem sc_Twice_init : FnScope ["self", "name"] ["self", "name"] (defScope s_Twice_init) := ⟨rfl, rfl, rfl, by decide +kernel, rfl, by decide +kernel, by decide +kernel⟩
theorem okx_Twice (T : Txt K mg) : FnOk P w K mg base L2.CX0 1 (He.fAd K ("Twice", some "__init__")) (fdOf K ("Twice", some "__init__")) ["self", "name"] (spXI K (He.ga K "Twice")) := by
  refine T.d_Twice_init.ok sc_Twice_init (fun vs H Q E ⟨a, z, e, _⟩ => by rw [e]; rfl) fun cdv A outer s H vs Q E hr h => ⟨_, pss_cons (ps_expr (pe_veinitC T.ve_WakeError rfl T.g_WakeError (pa_cons (pv 0) (pa_cons pe_str pa_nil)))) (pss_one (ps_ost (pv 0) (pv 1))), excInit_rd2 T.xi_Twice h⟩
theorem bx_Twice (T : Txt K mg) : Binds K (fdOf K ("Twice", some "__init__")) ["self", "name"] [] := T.d_Twice_init.bindsN fun _ _ _ _ _ _ us hl => match us, hl with | [_, _], _ => rfl
theorem sc_TooDeep_init : FnScope ["self", "name"] ["self", "name"] (defScope s_TooDeep_init) := ⟨rfl, rfl, rfl, by decide +kernel, rfl, by decide +kernel, by decide +kernel⟩
theorem okx_TooDeep (T : Txt K mg) : FnOk P w K mg base L2.CX0 1 (He.fAd K ("TooDeep", some "__init__")) (fdOf K ("TooDeep", some "__init__")) ["self", "name"] (spXI K (He.ga K "TooDeep")) := by
  refine T.d_TooDeep_init.ok sc_TooDeep_init (fun vs H Q E ⟨a, z, e, _⟩ => by rw [e]; rfl) fun cdv A outer s H vs Q E hr h => ⟨_, pss_cons (ps_expr (pe_veinitC T.ve_WakeError rfl T.g_WakeError (pa_cons (pv 0) (pa_cons pe_str pa_nil)))) (pss_one (ps_ost (pv 0) (pv 1))), excInit_rd2 T.xi_TooDeep h⟩
theorem bx_TooDeep (T : Txt K mg) : Binds K (fdOf K ("TooDeep", some "__init__")) ["self", "name"] [] := T.d_TooDeep_init.bindsN fun _ _ _ _ _ _ us hl => match us, hl with | [_, _], _ => rfl
theorem sc_cell_at : FnScope ["_law_script", "_law_k"] ["_law_script", "_law_k"] (defScope s_cell_at) := ⟨rfl, rfl, rfl, by decide +kernel, rfl, by decide +kernel, by decide +kernel⟩
abbrev L_cell_at (K : PySem.W.Frag) : Lay T_cell_at := (.cons 0 .sh (Enc.enc : Scr → M.D) (.cons 1 .sh (Enc.enc : Int → M.D) (.nil (tbs K))))
abbrev E_cell_at : A_cell_at → List M.D := consD (Enc.enc : Scr → M.D) (consD (Enc.enc : Int → M.D) (nilD))
set_option maxHeartbeats 8000000 in
theorem ok_cell_at (T : Txt K mg) : FnOk P w K mg base (L2.CX P w) 1 (He.fAd K ("_law_cell_at", none)) (fdOf K ("_law_cell_at", none)) ["_law_script", "_law_k"] (spP K (tbs K) E_cell_at .sh (Enc.enc : Int → M.D) cell_at) := by
  refine def_ok (n := 2) (l := L_cell_at K) (F := F_cell_at) T.d_cell_at sc_cell_at rfl (Ini.s (Ini.s Ini.z)) (fun _ => rfl) fun cdv A outer s H E hr => ?_
  exact (mss_cons (ms_if (mt_cmp op_lt o_lt (nomark _) (me_b (me_var (pv 1) (Get.s (Get.z)))) (me_b (me_callB call_len_seq o_lenC rfl T.z_len (mab_cons (me_b (me_var (pv 0) (Get.z))) mab_nil))))
  (mss_one (ms_ret (me_ix ix_list o_ixC (me_b (me_var (pv 0) (Get.z))) (me_b (me_var (pv 1) (Get.s (Get.z)))))))
  mss_nil)
  (mss_one (ms_ret me_int)))
theorem b_cell_at (T : Txt K mg) : Binds K (fdOf K ("_law_cell_at", none)) ["_law_script", "_law_k"] [] := T.d_cell_at.bindsN fun _ _ _ _ _ _ us hl => match us, hl with | [_, _], _ => rfl
theorem sc_Groups_init : FnScope ["self"] ["self"] (defScope s_Groups_init) := ⟨rfl, rfl, rfl, by decide +kernel, rfl, by decide +kernel, by decide +kernel⟩
abbrev L_Groups_init (K : PySem.W.Frag) : Lay T_Groups_init := (.cons 0 .sh (Enc.enc : Hn → M.D) (.wld (tbw K) (encW : Wo → M.D)))
theorem wl_Groups_init : Wl (L_Groups_init K) (encW : Wo → M.D) gw_Groups_init pw_Groups_init := (Wl.s Wl.z)
theorem wr_Groups_init : Wr false (L_Groups_init K) (encW : Wo → M.D) gw_Groups_init := (Wr.s Wr.w)
theorem wv_Groups_init : Wv (L_Groups_init K) (encW : Wo → M.D) gw_Groups_init := (Wv.s Wv.z)
abbrev E_Groups_init : A_Groups_init → List M.D := consD (Enc.enc : Hn → M.D) (nilD)
set_option maxHeartbeats 8000000 in
theorem ok_Groups_init (T : Txt K mg) : FnOk P w K mg base (L2.CX P w) 1 (He.fAd K ("Groups", some "__init__")) (fdOf K ("Groups", some "__init__")) ["self"] (spW K (tbw K) encW E_Groups_init .sh (Enc.enc : Unit → M.D) Groups_init) := by
  refine def_okWU (n := 1) (l := L_Groups_init K) (F := F_Groups_init) wl_Groups_init T.d_Groups_init sc_Groups_init rfl (IniW.s IniW.z) (fun _ => rfl) fun cdv A outer s H E hr => ?_
  exact (mss_cons (ms_sto wl_Groups_init fs_uppers (inl_cons ⟨T.c_Groups, T.n_Groups_uppers⟩ inl_nil) (me_var (pv 0) (Get.z)) (mx_ofO (mo_dnew (κ := PySem.Str) (α := (Option PySem.Str)))))
  (mss_one (ms_sto wl_Groups_init fs_marks (inl_cons ⟨T.c_Groups, T.n_Groups_marks⟩ inl_nil) (me_var (pv 0) (Get.z)) (mx_ofO (mo_dnew (κ := PySem.Str) (α := Bool))))))
theorem b_Groups_init (T : Txt K mg) : Binds K (fdOf K ("Groups", some "__init__")) ["self"] [] := T.d_Groups_init.bindsN fun _ _ _ _ _ _ us hl => match us, hl with | [_], _ => rfl
theorem sc_named : FnScope ["_law_names", "_law_cell"] ["_law_names", "_law_cell"] (defScope s_named) := ⟨rfl, rfl, rfl, by decide +kernel, rfl, by decide +kernel, by decide +kernel⟩
abbrev L_named (K : PySem.W.Frag) : Lay T_named := (.cons 0 .sh (Enc.enc : (List PySem.Str) → M.D) (.cons 1 .sh (Enc.enc : Int → M.D) (.nil (tbs K))))
abbrev E_named : A_named → List M.D := consD (Enc.enc : (List PySem.Str) → M.D) (consD (Enc.enc : Int → M.D) (nilD))
set_option maxHeartbeats 8000000 in
theorem ok_named (T : Txt K mg) : FnOk P w K mg base (L2.CX P w) 1 (He.fAd K ("_law_named", none)) (fdOf K ("_law_named", none)) ["_law_names", "_law_cell"] (spP K (tbs K) E_named .sh (Enc.enc : PySem.Str → M.D) named) := by
  refine def_ok (n := 2) (l := L_named K) (F := F_named) T.d_named sc_named rfl (Ini.s (Ini.s Ini.z)) (fun _ => rfl) fun cdv A outer s H E hr => ?_
  exact (mss_cons (ms_if (mt_cmp (op_eqD hr.units) (o_eq (α := Int)) (nomark _) (me_b (me_op op_mod o_mod (me_b (me_var (pv 1) (Get.s (Get.z)))) (me_b me_int))) (me_b me_int))
  (mss_one (ms_ret (me_ix ix_list o_ixL (me_b (me_var (pv 0) (Get.z))) (me_b (me_un un_neg o_neg (me_b me_int))))))
  mss_nil)
  (mss_one (ms_ret (me_ix ix_list o_ixL (me_b (me_var (pv 0) (Get.z))) (me_b (me_op op_mod o_mod (me_b (me_op op_fdivW o_div (me_b (me_var (pv 1) (Get.s (Get.z)))) (me_b me_int))) (me_b (me_callB call_len_seq o_lenL rfl T.z_len (mab_cons (me_b (me_var (pv 0) (Get.z))) mab_nil)))))))))
theorem b_named (T : Txt K mg) : Binds K (fdOf K ("_law_named", none)) ["_law_names", "_law_cell"] [] := T.d_named.bindsN fun _ _ _ _ _ _ us hl => match us, hl with | [_, _], _ => rfl
theorem sc_Groups_sure : FnScope ["self", "name"] ["self", "name"] (defScope s_Groups_sure) := ⟨rfl, rfl, rfl, by decide +kernel, rfl, by decide +kernel, by decide +kernel⟩
abbrev L_Groups_sure (K : PySem.W.Frag) : Lay T_Groups_sure := (.cons 0 .sh (Enc.enc : Hn → M.D) (.cons 1 .sh (Enc.enc : PySem.Str → M.D) (.rwd (tbs K) (encW : Wo → M.D))))
theorem wr_Groups_sure : Wr true (L_Groups_sure K) (encW : Wo → M.D) gw_Groups_sure := (Wr.s (Wr.s Wr.r))
theorem wv_Groups_sure : Wv (L_Groups_sure K) (encW : Wo → M.D) gw_Groups_sure := (Wv.s (Wv.s Wv.r))
abbrev E_Groups_sure : A_Groups_sure → List M.D := consD (Enc.enc : Hn → M.D) (consD (Enc.enc : PySem.Str → M.D) (nilD))
set_option maxHeartbeats 8000000 in
theorem ok_Groups_sure (T : Txt K mg) : FnOk P w K mg base (L2.CX P w) 4 (He.fAd K ("Groups", some "sure")) (fdOf K ("Groups", some "sure")) ["self", "name"] (spR K (tbs K) encW E_Groups_sure .sh (Enc.enc : Unit → M.D) Groups_sure) := by
  refine def_okRU (n := 2) (l := L_Groups_sure K) (F := F_Groups_sure) T.d_Groups_sure sc_Groups_sure rfl (IniR.s (IniR.s IniR.z)) (fun _ => rfl) fun cdv A outer s H E hr => ?_
  exact (mss_one (ms_if (mt_dnin (un65 hr) (me_b (me_var (pv 1) (Get.s (Get.z)))) (me_b (me_fldR wr_Groups_sure fl_uppers (inl_cons ⟨T.c_Groups, T.n_Groups_uppers⟩ inl_nil) (me_var (pv 0) (Get.z)))))
  (mss_one (ms_raiseN T.xi_NoGroup rfl (takes_of rfl rfl rfl rfl) (okx_NoGroup T) (hr.mono (by decide)) (bx_NoGroup T) rfl T.g_NoGroup (me_var (pv 1) (Get.s (Get.z)))))
  mss_nil))
theorem b_Groups_sure (T : Txt K mg) : Binds K (fdOf K ("Groups", some "sure")) ["self", "name"] [] := T.d_Groups_sure.bindsN fun _ _ _ _ _ _ us hl => match us, hl with | [_, _], _ => rfl
theorem sc_Groups_chain : FnScope ["self", "name", "found"] ["self", "name"] (defScope s_Groups_chain) := ⟨rfl, rfl, rfl, by decide +kernel, rfl, by decide +kernel, by decide +kernel⟩
abbrev L_Groups_chain (K : PySem.W.Frag) : Lay T_Groups_chain := (.cons 0 .sh (Enc.enc : Hn → M.D) (.cons 1 .sh (Enc.enc : PySem.Str → M.D) (.cons 2 .ow (Enc.enc : (List PySem.Str) → M.D) (.cons 2 .sh (Enc.enc : (List PySem.Str) → M.D) (.rwd (tbs K) (encW : Wo → M.D))))))
theorem wr_Groups_chain : Wr true (L_Groups_chain K) (encW : Wo → M.D) gw_Groups_chain := (Wr.s (Wr.s (Wr.s (Wr.s Wr.r))))
theorem wv_Groups_chain : Wv (L_Groups_chain K) (encW : Wo → M.D) gw_Groups_chain := (Wv.s (Wv.s (Wv.s (Wv.s Wv.r))))
abbrev E_Groups_chain : A_Groups_chain → List M.D := consD (Enc.enc : Hn → M.D) (consD (Enc.enc : PySem.Str → M.D) (nilD))
set_option maxHeartbeats 8000000 in
theorem ok_Groups_chain (T : Txt K mg) : FnOk P w K mg base (L2.CX P w) 5 (He.fAd K ("Groups", some "chain")) (fdOf K ("Groups", some "chain")) ["self", "name"] (spR K (tbs K) encW E_Groups_chain .ow (Enc.enc : (List PySem.Str) → M.D) Groups_chain) := by
  refine def_okR (n := 3) (l := L_Groups_chain K) (F := F_Groups_chain) T.d_Groups_chain sc_Groups_chain rfl (IniR.s (IniR.s (IniR.k (IniR.k IniR.z)))) (fun _ => rfl) fun cdv A outer s H E hr => ?_
  exact (mss_cons (ms_drop (mo_e (mo_methR wv_Groups_chain wr_Groups_chain nf_sure (rows_cons (MRowS.of T.c_Groups T.m_Groups_sure (ok_Groups_sure T) (hr.mono (by decide)) (b_Groups_sure T) .nil (takes_of rfl rfl rfl rfl) sp0_nil) rows_nil) (me_var (pv 0) (Get.z)) (ma_cons (me_var (pv 1) (Get.s (Get.z))) ma_nil))))
  (mss_cons (ms_set 2 (mo_lst (ea := (Enc.enc : (List PySem.Str) → M.D)) (ma_cons (me_var (pv 1) (Get.s (Get.z))) ma_nil) (fun _ => rfl)) sc_Groups_chain.nd rfl (Or.inl rfl) (Put.s (Put.s (Put.zc rfl))))
  (mss_cons (ms_while (passes_of rfl) (mt_cmp op_notN (o_notN (α := PySem.Str)) (nomark _) (me_b (me_dget (un65 hr) (me_b (me_fldR wr_Groups_chain fl_uppers (inl_cons ⟨T.c_Groups, T.n_Groups_uppers⟩ inl_nil) (me_var (pv 0) (Get.z)))) (me_b (me_ix ix_list o_ixL (mb_var (pv 2) (Get.s (Get.s (Get.z)))) (me_b (me_un un_neg o_neg (me_b me_int))))))) (me_b me_non))
  (mss_one (ms_append (Tak.s (Tak.s (Tak.z))) (fun _ => rfl) (pv 2) (me_unO (α := PySem.Str) (me_dget (un65 hr) (me_b (me_fldR wr_Groups_chain fl_uppers (inl_cons ⟨T.c_Groups, T.n_Groups_uppers⟩ inl_nil) (me_var (pv 0) (Get.z)))) (me_b (me_ix ix_list o_ixL (mb_var (pv 2) (Get.s (Get.s (Get.z)))) (me_b (me_un un_neg o_neg (me_b me_int))))))))))
  (mss_one (ms_retT (pv 2) (Tak.s (Tak.s (Tak.z))))))))
theorem b_Groups_chain (T : Txt K mg) : Binds K (fdOf K ("Groups", some "chain")) ["self", "name"] [] := T.d_Groups_chain.bindsN fun _ _ _ _ _ _ us hl => match us, hl with | [_, _], _ => rfl
theorem sc_name : FnScope ["_law_k", "_law_style", "_law_some"] ["_law_k", "_law_style"] (defScope s_name) := ⟨rfl, rfl, rfl, by decide +kernel, rfl, by decide +kernel, by decide +kernel⟩
abbrev L_name (K : PySem.W.Frag) : Lay T_name := (.cons 0 .sh (Enc.enc : Int → M.D) (.cons 1 .sh (Enc.enc : Int → M.D) (.cons 2 .sh (Enc.enc : PySem.Str → M.D) (.nil (tbs K)))))
abbrev E_name : A_name → List M.D := consD (Enc.enc : Int → M.D) (consD (Enc.enc : Int → M.D) (nilD))
set_option maxHeartbeats 8000000 in
theorem ok_name (T : Txt K mg) : FnOk P w K mg base (L2.CX P w) 1 (He.fAd K ("_law_name", none)) (fdOf K ("_law_name", none)) ["_law_k", "_law_style"] (spP K (tbs K) E_name .sh (Enc.enc : PySem.Str → M.D) name) := by
  refine def_ok (n := 3) (l := L_name K) (F := F_name) T.d_name sc_name rfl (Ini.s (Ini.s Ini.z)) (fun _ => rfl) fun cdv A outer s H E hr => ?_
  exact (mss_cons (ms_set 2 (me_o me_str) sc_name.nd rfl (Or.inl rfl) (Put.s (Put.s (Put.z rfl))))
  (mss_cons (ms_if (mt_cmp (op_eqD hr.units) (o_eq (α := Int)) (nomark _) (me_b (me_op op_mod o_mod (me_b (me_var (pv 1) (Get.s (Get.z)))) (me_b me_int))) (me_b me_int))
  (mss_one (ms_ret (me_op op_add_str o_addT (me_b (me_op op_add_str o_addT (me_b (me_ix ix_str o_ixT (me_b (me_var (pv 2) (Get.s (Get.s (Get.z))))) (me_b (me_op op_mod o_mod (me_b (me_var (pv 0) (Get.z))) (me_b me_int))))) (me_b (me_op op_mul_str o_mulT (me_b me_str) (me_b (me_op op_mod o_mod (me_b (me_op op_fdivW o_div (me_b (me_var (pv 1) (Get.s (Get.z)))) (me_b me_int))) (me_b me_int))))))) (me_b (me_ix ix_str o_ixT (me_b (me_var (pv 2) (Get.s (Get.s (Get.z))))) (me_b (me_op op_mod o_mod (me_b (me_op op_add o_add (me_b (me_var (pv 0) (Get.z))) (me_b (me_op op_fdivW o_div (me_b (me_var (pv 1) (Get.s (Get.z)))) (me_b me_int))))) (me_b me_int))))))))
  mss_nil)
  (mss_one (ms_ret (me_op op_add_str o_addT (me_b (me_op op_add_str o_addT (me_b (me_op op_mul_str o_mulT (me_b me_str) (me_b (me_op op_mod o_mod (me_b (me_op op_fdivW o_div (me_b (me_var (pv 1) (Get.s (Get.z)))) (me_b me_int))) (me_b me_int))))) (me_b (me_ix ix_str o_ixT (me_b (me_var (pv 2) (Get.s (Get.s (Get.z))))) (me_b (me_op op_fdivW o_div (me_b (me_var (pv 0) (Get.z))) (me_b me_int))))))) (me_b (me_ix ix_str o_ixT (me_b (me_var (pv 2) (Get.s (Get.s (Get.z))))) (me_b (me_op op_sub o_sub (me_b me_int) (me_b (me_op op_mod o_mod (me_b (me_var (pv 0) (Get.z))) (me_b me_int))))))))))))
theorem b_name (T : Txt K mg) : Binds K (fdOf K ("_law_name", none)) ["_law_k", "_law_style"] [] := T.d_name.bindsN fun _ _ _ _ _ _ us hl => match us, hl with | [_, _], _ => rfl
theorem sc_Groups_add : FnScope ["self", "name", "above"] ["self", "name", "above"] (defScope s_Groups_add) := ⟨rfl, rfl, rfl, by decide +kernel, rfl, by decide +kernel, by decide +kernel⟩
abbrev L_Groups_add (K : PySem.W.Frag) : Lay T_Groups_add := (.cons 0 .sh (Enc.enc : Hn → M.D) (.cons 1 .sh (Enc.enc : PySem.Str → M.D) (.cons 2 .sh (Enc.enc : (Option PySem.Str) → M.D) (.wld (tbw K) (encW : Wo → M.D)))))
theorem wl_Groups_add : Wl (L_Groups_add K) (encW : Wo → M.D) gw_Groups_add pw_Groups_add := (Wl.s (Wl.s (Wl.s Wl.z)))
theorem wr_Groups_add : Wr false (L_Groups_add K) (encW : Wo → M.D) gw_Groups_add := (Wr.s (Wr.s (Wr.s Wr.w)))
theorem wv_Groups_add : Wv (L_Groups_add K) (encW : Wo → M.D) gw_Groups_add := (Wv.s (Wv.s (Wv.s Wv.z)))
abbrev E_Groups_add : A_Groups_add → List M.D := consD (Enc.enc : Hn → M.D) (consD (Enc.enc : PySem.Str → M.D) (consD (Enc.enc : (Option PySem.Str) → M.D) (nilD)))
set_option maxHeartbeats 8000000 in
theorem ok_Groups_add (T : Txt K mg) : FnOk P w K mg base (L2.CX P w) 6 (He.fAd K ("Groups", some "add")) (fdOf K ("Groups", some "add")) ["self", "name", "above"] (spW K (tbw K) encW E_Groups_add .sh (Enc.enc : Unit → M.D) Groups_add) := by
  refine def_okWU (n := 3) (l := L_Groups_add K) (F := F_Groups_add) wl_Groups_add T.d_Groups_add sc_Groups_add rfl (IniW.s (IniW.s (IniW.s IniW.z))) (fun _ => rfl) fun cdv A outer s H E hr => ?_
  exact (mss_cons (ms_if (mt_din (un65 hr) (me_b (me_var (pv 1) (Get.s (Get.z)))) (mb_fld wr_Groups_add fl_uppers (inl_cons ⟨T.c_Groups, T.n_Groups_uppers⟩ inl_nil) (me_var (pv 0) (Get.z))))
  (mss_one (ms_raiseN T.xi_Twice rfl (takes_of rfl rfl rfl rfl) (okx_Twice T) (hr.mono (by decide)) (bx_Twice T) rfl T.g_Twice (me_var (pv 1) (Get.s (Get.z)))))
  mss_nil)
  (mss_cons (ms_if (PW.pt (mw_and (mt_cmp op_notN (o_notN (α := PySem.Str)) (nomark _) (me_b (me_var (pv 2) (Get.s (Get.s (Get.z))))) (me_b me_non)) (pw_and1 (mt_cmp op_ge o_ge (nomark _) (me_b (me_callB call_len_seq o_lenL rfl T.z_len (mab_cons (mo_b (mo_methR wv_Groups_add wr_Groups_add nf_chain (rows_cons (MRowS.of T.c_Groups T.m_Groups_chain (ok_Groups_chain T) (hr.mono (by decide)) (b_Groups_chain T) .nil (takes_of rfl rfl rfl rfl) sp0_nil) rows_nil) (me_var (pv 0) (Get.z)) (ma_cons (me_unO (α := PySem.Str) (me_var (pv 2) (Get.s (Get.s (Get.z))))) ma_nil))) mab_nil))) (me_b (me_c (pe_glob (v := .int 8) (by rfl) (Classical.choose_spec T.v_DEEPEST) ⟨_, rfl⟩) fun _ _ => Rep.int _ .nil))))))
  (mss_one (ms_raiseN T.xi_TooDeep rfl (takes_of rfl rfl rfl rfl) (okx_TooDeep T) (hr.mono (by decide)) (bx_TooDeep T) rfl T.g_TooDeep (me_var (pv 1) (Get.s (Get.z)))))
  mss_nil)
  (mss_cons (msx_dput SelE.t (mf_fld wl_Groups_add fm_uppers (inl_cons ⟨T.c_Groups, T.n_Groups_uppers⟩ inl_nil) (me_var (pv 0) (Get.z))) (me_var (pv 1) (Get.s (Get.z))) (mx_of (me_var (pv 2) (Get.s (Get.s (Get.z))))) (un65 hr))
  (mss_one (msx_dput SelE.t (mf_fld wl_Groups_add fm_marks (inl_cons ⟨T.c_Groups, T.n_Groups_marks⟩ inl_nil) (me_var (pv 0) (Get.z))) (me_var (pv 1) (Get.s (Get.z))) (mx_of me_bl) (un65 hr))))))
theorem bn_Groups_add_3 (T : Txt K mg) : ∃ ds, Vals (([.non] : List V).drop 1) ds ∧ Binds K (fdOf K ("Groups", some "add")) ["self", "name", "above"] ds := T.d_Groups_add.binds1 3 1 (by simp) rfl fun _ _ _ _ _ _ _ us its h1 h2 => match us, its, h1, h2 with | [_, _, _], [_], _, _ => ⟨_, rfl, rfl⟩

theorem sc_Groups_gathered : FnScope ["self", "name", "found", "other", "above"] ["self", "name"] (defScope s_Groups_gathered) := ⟨rfl, rfl, rfl, by decide +kernel, rfl, by decide +kernel, by decide +kernel⟩
abbrev L_Groups_gathered (K : PySem.W.Frag) : Lay T_Groups_gathered := (.cons 0 .sh (Enc.enc : Hn → M.D) (.cons 1 .sh (Enc.enc : PySem.Str → M.D) (.cons 2 .ow (Enc.enc : (List PySem.Str) → M.D) (.cons 2 .sh (Enc.enc : (List PySem.Str) → M.D) (.cons 3 .sh (Enc.enc : PySem.Str → M.D) (.cons 4 .sh (Enc.enc : (Option PySem.Str) → M.D) (.rwd (tbs K) (encW : Wo → M.D))))))))
theorem wr_Groups_gathered : Wr true (L_Groups_gathered K) (encW : Wo → M.D) gw_Groups_gathered := (Wr.s (Wr.s (Wr.s (Wr.s (Wr.s (Wr.s Wr.r))))))
theorem wv_Groups_gathered : Wv (L_Groups_gathered K) (encW : Wo → M.D) gw_Groups_gathered := (Wv.s (Wv.s (Wv.s (Wv.s (Wv.s (Wv.s Wv.r))))))
abbrev E_Groups_gathered : A_Groups_gathered → List M.D := consD (Enc.enc : Hn → M.D) (consD (Enc.enc : PySem.Str → M.D) (nilD))
theorem b_Groups_gathered (T : Txt K mg) : Binds K (fdOf K ("Groups", some "gathered")) ["self", "name"] [] := T.d_Groups_gathered.bindsN fun _ _ _ _ _ _ us hl => match us, hl with | [_, _], _ => rfl
set_option maxHeartbeats 8000000 in
theorem okr_Groups_gathered (T : Txt K mg) : ∀ n : Nat, FnOk P w K mg base (L2.CX P w) (n + 4) (He.fAd K ("Groups", some "gathered")) (fdOf K ("Groups", some "gathered")) ["self", "name"] (spR K (tbs K) encW E_Groups_gathered .ow (Enc.enc : (List PySem.Str) → M.D) (Groups_gathered_f n))
| 0 => by
  refine def_okR (n := 5) (l := L_Groups_gathered K) (F := (fun _ => .stuck)) T.d_Groups_gathered sc_Groups_gathered rfl (IniR.s (IniR.s (IniR.k (IniR.k (IniR.k (IniR.k IniR.z)))))) (fun _ => rfl) fun cdv A outer s H E hr => ?_
  exact mss_stuck
| n + 1 => by
  have ih := okr_Groups_gathered T n
  refine def_okR (n := 5) (l := L_Groups_gathered K) (F := F_Groups_gathered (Groups_gathered_f n)) T.d_Groups_gathered sc_Groups_gathered rfl (IniR.s (IniR.s (IniR.k (IniR.k (IniR.k (IniR.k IniR.z)))))) (fun _ => rfl) fun cdv A outer s H E hr => ?_
  exact (mss_cons (ms_set 2 (mo_lst (ea := (Enc.enc : (List PySem.Str) → M.D)) (ma_cons (me_var (pv 1) (Get.s (Get.z))) ma_nil) (fun _ => rfl)) sc_Groups_gathered.nd rfl (Or.inl rfl) (Put.s (Put.s (Put.zc rfl))))
  (mss_cons (ms_forIt (adr_fld wr_Groups_gathered fl_uppers (inl_cons ⟨T.c_Groups, T.n_Groups_uppers⟩ inl_nil) (me_var (pv 0) (Get.z)) (fun _ => ofO_nx)) (passes_of rfl) rfl (mg_tup rfl (mgs_cons (mg_name (us := [3, 4]) (pg_name (i := 3) sc_Groups_gathered.nd rfl (Or.inl rfl)) (Put.s (Put.s (Put.s (Put.s (Put.z rfl)))))) (mgs_cons (mg_name (us := [3, 4]) (pg_name (i := 4) sc_Groups_gathered.nd rfl (Or.inl rfl)) (Put.s (Put.s (Put.s (Put.s (Put.s (Put.z rfl))))))) mgs_nil)) (fun _ => rfl) (fun _ => rfl))
  (mss_one (ms_if (mt_cmp (op_eqD hr.units) (o_eq (α := (Option PySem.Str))) (nomark _) (me_b (me_var (pv 4) (Get.s (Get.s (Get.s (Get.s (Get.s (Get.z)))))))) (me_b (me_some (me_var (pv 1) (Get.s (Get.z))))))
  (mss_one (msx_drop (mx_lm PySem.F.plainAttrs_list PySem.F.slot_list_extend PySem.F.type_list_extend mt_extend lop_extend SelE.f scx (mf_name (pv 2) (Tak.s (Tak.s (Tak.z)))) (ma_cons (mo_e (mo_methR wv_Groups_gathered wr_Groups_gathered nf_gathered (rows_cons (MRowS.of T.c_Groups T.m_Groups_gathered ih (hr.mono (by omega)) (b_Groups_gathered T) .nil (takes_of rfl rfl rfl rfl) sp0_nil) rows_nil) (me_var (pv 0) (Get.z)) (ma_cons (me_var (pv 3) (Get.s (Get.s (Get.s (Get.s (Get.z)))))) ma_nil))) ma_nil))))
  mss_nil)))
  (mss_one (ms_retT (pv 2) (Tak.s (Tak.s (Tak.z)))))))
theorem ok_Groups_gathered (T : Txt K mg) : FnOk P w K mg base (L2.CX P w) 16 (He.fAd K ("Groups", some "gathered")) (fdOf K ("Groups", some "gathered")) ["self", "name"] (spR K (tbs K) encW E_Groups_gathered .ow (Enc.enc : (List PySem.Str) → M.D) Groups_gathered) := okr_Groups_gathered T 12
theorem sc_Groups_within : FnScope ["self", "name"] ["self", "name"] (defScope s_Groups_within) := ⟨rfl, rfl, rfl, by decide +kernel, rfl, by decide +kernel, by decide +kernel⟩
abbrev L_Groups_within (K : PySem.W.Frag) : Lay T_Groups_within := (.cons 0 .sh (Enc.enc : Hn → M.D) (.cons 1 .sh (Enc.enc : PySem.Str → M.D) (.rwd (tbs K) (encW : Wo → M.D))))
theorem wr_Groups_within : Wr true (L_Groups_within K) (encW : Wo → M.D) gw_Groups_within := (Wr.s (Wr.s Wr.r))
theorem wv_Groups_within : Wv (L_Groups_within K) (encW : Wo → M.D) gw_Groups_within := (Wv.s (Wv.s Wv.r))
abbrev E_Groups_within : A_Groups_within → List M.D := consD (Enc.enc : Hn → M.D) (consD (Enc.enc : PySem.Str → M.D) (nilD))
set_option maxHeartbeats 8000000 in
theorem ok_Groups_within (T : Txt K mg) : FnOk P w K mg base (L2.CX P w) 17 (He.fAd K ("Groups", some "within")) (fdOf K ("Groups", some "within")) ["self", "name"] (spR K (tbs K) encW E_Groups_within .ow (Enc.enc : (List PySem.Str) → M.D) Groups_within) := by
  refine def_okR (n := 2) (l := L_Groups_within K) (F := F_Groups_within) T.d_Groups_within sc_Groups_within rfl (IniR.s (IniR.s IniR.z)) (fun _ => rfl) fun cdv A outer s H E hr => ?_
  exact (mss_cons (ms_drop (mo_e (mo_methR wv_Groups_within wr_Groups_within nf_sure (rows_cons (MRowS.of T.c_Groups T.m_Groups_sure (ok_Groups_sure T) (hr.mono (by decide)) (b_Groups_sure T) .nil (takes_of rfl rfl rfl rfl) sp0_nil) rows_nil) (me_var (pv 0) (Get.z)) (ma_cons (me_var (pv 1) (Get.s (Get.z))) ma_nil))))
  (mss_one (ms_retO (mo_callB (call_sort (α := PySem.Str) hr.units) (o_sort (α := PySem.Str)) rfl T.z_sorted (mab_cons (mo_b (mo_methR wv_Groups_within wr_Groups_within nf_gathered (rows_cons (MRowS.of T.c_Groups T.m_Groups_gathered (ok_Groups_gathered T) (hr.mono (by decide)) (b_Groups_gathered T) .nil (takes_of rfl rfl rfl rfl) sp0_nil) rows_nil) (me_var (pv 0) (Get.z)) (ma_cons (me_var (pv 1) (Get.s (Get.z))) ma_nil))) mab_nil)))))
theorem b_Groups_within (T : Txt K mg) : Binds K (fdOf K ("Groups", some "within")) ["self", "name"] [] := T.d_Groups_within.bindsN fun _ _ _ _ _ _ us hl => match us, hl with | [_, _], _ => rfl
theorem sc_Groups_awake : FnScope ["self", "name", "one"] ["self", "name"] (defScope s_Groups_awake) := ⟨rfl, rfl, rfl, by decide +kernel, rfl, by decide +kernel, by decide +kernel⟩
abbrev L_Groups_awake (K : PySem.W.Frag) : Lay T_Groups_awake := (.cons 0 .sh (Enc.enc : Hn → M.D) (.cons 1 .sh (Enc.enc : PySem.Str → M.D) (.cons 2 .sh (Enc.enc : PySem.Str → M.D) (.rwd (tbs K) (encW : Wo → M.D)))))
theorem wr_Groups_awake : Wr true (L_Groups_awake K) (encW : Wo → M.D) gw_Groups_awake := (Wr.s (Wr.s (Wr.s Wr.r)))
theorem wv_Groups_awake : Wv (L_Groups_awake K) (encW : Wo → M.D) gw_Groups_awake := (Wv.s (Wv.s (Wv.s Wv.r)))
abbrev E_Groups_awake : A_Groups_awake → List M.D := consD (Enc.enc : Hn → M.D) (consD (Enc.enc : PySem.Str → M.D) (nilD))
set_option maxHeartbeats 8000000 in
theorem ok_Groups_awake (T : Txt K mg) : FnOk P w K mg base (L2.CX P w) 6 (He.fAd K ("Groups", some "awake")) (fdOf K ("Groups", some "awake")) ["self", "name"] (spR K (tbs K) encW E_Groups_awake .sh (Enc.enc : Bool → M.D) Groups_awake) := by
  refine def_okR (n := 3) (l := L_Groups_awake K) (F := F_Groups_awake) T.d_Groups_awake sc_Groups_awake rfl (IniR.s (IniR.s (IniR.k IniR.z))) (fun _ => rfl) fun cdv A outer s H E hr => ?_
  exact (mss_one (ms_ret (me_not (me_callB (cr_any rfl) o_any rfl T.z_any (mab_cons (mo_b (mo_lc (en := (Enc.enc : (List Bool) → M.D)) rfl sc_Groups_awake.nd rfl (fun _ => rfl) (mi_listS (en := (Enc.enc : (List PySem.Str) → M.D)) (fun _ => rfl) (mo_e (mo_methR wv_Groups_awake wr_Groups_awake nf_chain (rows_cons (MRowS.of T.c_Groups T.m_Groups_chain (ok_Groups_chain T) (hr.mono (by decide)) (b_Groups_chain T) .nil (takes_of rfl rfl rfl rfl) sp0_nil) rows_nil) (me_var (pv 0) (Get.z)) (ma_cons (me_var (pv 1) (Get.s (Get.z))) ma_nil)))) (blkOk_by (own := [("one", 2)]) (N := ["self", "name", "one"]) (sc := defScope s_Groups_awake) (by decide +kernel)) (Wip.keep (Wip.keep (Wip.drop Wip.r))) (fun _ _ _ _ _ => (mg_name (us := [2]) (pg_name (i := 2) sc_Groups_awake.nd rfl (Or.inl rfl)) (Put.s (Put.s (Put.z rfl))))) (fun _ _ _ _ _ => mts_nil) (fun _ _ _ _ _ => (me_dget (un65 hr) (me_b (me_fldR wr_Groups_awake fl_marks (inl_cons ⟨T.c_Groups, T.n_Groups_marks⟩ inl_nil) (me_var (pv 0) (Get.z)))) (me_b (me_var (pv 2) (Get.s (Get.s (Get.z))))))))) mab_nil)))))
theorem b_Groups_awake (T : Txt K mg) : Binds K (fdOf K ("Groups", some "awake")) ["self", "name"] [] := T.d_Groups_awake.bindsN fun _ _ _ _ _ _ us hl => match us, hl with | [_, _], _ => rfl
theorem sc_Groups_put_mark : FnScope ["self", "name", "mark", "inner", "ahead", "one"] ["self", "name", "mark"] (defScope s_Groups_put_mark) := ⟨rfl, rfl, rfl, by decide +kernel, rfl, by decide +kernel, by decide +kernel⟩
abbrev L_Groups_put_mark (K : PySem.W.Frag) : Lay T_Groups_put_mark := (.cons 0 .sh (Enc.enc : Hn → M.D) (.cons 1 .sh (Enc.enc : PySem.Str → M.D) (.cons 2 .sh (Enc.enc : Bool → M.D) (.cons 3 .sh (Enc.enc : (List PySem.Str) → M.D) (.cons 4 .sh (Enc.enc : (List PySem.Str) → M.D) (.cons 5 .sh (Enc.enc : PySem.Str → M.D) (.wld (tbw K) (encW : Wo → M.D))))))))
theorem wl_Groups_put_mark : Wl (L_Groups_put_mark K) (encW : Wo → M.D) gw_Groups_put_mark pw_Groups_put_mark := (Wl.s (Wl.s (Wl.s (Wl.s (Wl.s (Wl.s Wl.z))))))
theorem wr_Groups_put_mark : Wr false (L_Groups_put_mark K) (encW : Wo → M.D) gw_Groups_put_mark := (Wr.s (Wr.s (Wr.s (Wr.s (Wr.s (Wr.s Wr.w))))))
theorem wv_Groups_put_mark : Wv (L_Groups_put_mark K) (encW : Wo → M.D) gw_Groups_put_mark := (Wv.s (Wv.s (Wv.s (Wv.s (Wv.s (Wv.s Wv.z))))))
abbrev E_Groups_put_mark : A_Groups_put_mark → List M.D := consD (Enc.enc : Hn → M.D) (consD (Enc.enc : PySem.Str → M.D) (consD (Enc.enc : Bool → M.D) (nilD)))
set_option maxHeartbeats 8000000 in
theorem ok_Groups_put_mark (T : Txt K mg) : FnOk P w K mg base (L2.CX P w) 18 (He.fAd K ("Groups", some "put_mark")) (fdOf K ("Groups", some "put_mark")) ["self", "name", "mark"] (spW K (tbw K) encW E_Groups_put_mark .ow (Enc.enc : (List PySem.Str) → M.D) Groups_put_mark) := by
  refine def_okW (n := 6) (l := L_Groups_put_mark K) (F := F_Groups_put_mark) wl_Groups_put_mark T.d_Groups_put_mark sc_Groups_put_mark rfl (IniW.s (IniW.s (IniW.s (IniW.k (IniW.k (IniW.k IniW.z)))))) (fun _ => rfl) fun cdv A outer s H E hr => ?_
  exact (mss_cons (ms_set 3 (me_o (mo_e (mo_methR wv_Groups_put_mark wr_Groups_put_mark nf_within (rows_cons (MRowS.of T.c_Groups T.m_Groups_within (ok_Groups_within T) (hr.mono (by decide)) (b_Groups_within T) .nil (takes_of rfl rfl rfl rfl) sp0_nil) rows_nil) (me_var (pv 0) (Get.z)) (ma_cons (me_var (pv 1) (Get.s (Get.z))) ma_nil)))) sc_Groups_put_mark.nd rfl (Or.inl rfl) (Put.s (Put.s (Put.s (Put.z rfl)))))
  (mss_cons (ms_set 4 (me_o (mo_e (mo_lc (en := (Enc.enc : (List PySem.Str) → M.D)) rfl sc_Groups_put_mark.nd rfl (fun _ => rfl) (mi_listS (en := (Enc.enc : (List PySem.Str) → M.D)) (fun _ => rfl) (me_var (pv 3) (Get.s (Get.s (Get.s (Get.z)))))) (blkOk_by (own := [("one", 5)]) (N := ["self", "name", "mark", "inner", "ahead", "one"]) (sc := defScope s_Groups_put_mark) (by decide +kernel)) (Wip.keep (Wip.keep (Wip.keep (Wip.keep (Wip.keep (Wip.drop Wip.w)))))) (fun _ _ _ _ _ => (mg_name (us := [5]) (pg_name (i := 5) sc_Groups_put_mark.nd rfl (Or.inl rfl)) (Put.s (Put.s (Put.s (Put.s (Put.s (Put.z rfl)))))))) (fun _ _ _ _ _ => (mts_one (mt_val (mo_e (mo_methR wv_Groups_put_mark wr_Groups_put_mark nf_awake (rows_cons (MRowS.of T.c_Groups T.m_Groups_awake (ok_Groups_awake T) (hr.mono (by decide)) (b_Groups_awake T) .nil takes_none5 sp0_nil) rows_nil) (me_var (pv 0) (Get.z)) (ma_cons (me_var (pv 5) (Get.s (Get.s (Get.s (Get.s (Get.s (Get.z))))))) ma_nil)))))) (fun _ _ _ _ _ => (me_var (pv 5) (Get.s (Get.s (Get.s (Get.s (Get.s (Get.z))))))))))) sc_Groups_put_mark.nd rfl (Or.inr rfl) (Put.s (Put.s (Put.s (Put.s (Put.z rfl))))))
  (mss_cons (msx_dput SelE.t (mf_fld wl_Groups_put_mark fm_marks (inl_cons ⟨T.c_Groups, T.n_Groups_marks⟩ inl_nil) (me_var (pv 0) (Get.z))) (me_var (pv 1) (Get.s (Get.z))) (mx_of (me_var (pv 2) (Get.s (Get.s (Get.z))))) (un65 hr))
  (mss_one (ms_retO (mo_lc (en := (Enc.enc : (List PySem.Str) → M.D)) rfl sc_Groups_put_mark.nd rfl (fun _ => rfl) (mi_listS (en := (Enc.enc : (List PySem.Str) → M.D)) (fun _ => rfl) (me_var (pv 3) (Get.s (Get.s (Get.s (Get.z)))))) (blkOk_by (own := [("one", 5)]) (N := ["self", "name", "mark", "inner", "ahead", "one"]) (sc := defScope s_Groups_put_mark) (by decide +kernel)) (Wip.keep (Wip.keep (Wip.keep (Wip.keep (Wip.keep (Wip.drop Wip.w)))))) (fun _ _ _ _ _ => (mg_name (us := [5]) (pg_name (i := 5) sc_Groups_put_mark.nd rfl (Or.inl rfl)) (Put.s (Put.s (Put.s (Put.s (Put.s (Put.z rfl)))))))) (fun _ _ _ _ _ => (mts_one (mt_cmp (op_neD hr.units) (o_ne (α := Bool)) (nomark _) (mo_b (mo_methR wv_Groups_put_mark wr_Groups_put_mark nf_awake (rows_cons (MRowS.of T.c_Groups T.m_Groups_awake (ok_Groups_awake T) (hr.mono (by decide)) (b_Groups_awake T) .nil takes_none5 sp0_nil) rows_nil) (me_var (pv 0) (Get.z)) (ma_cons (me_var (pv 5) (Get.s (Get.s (Get.s (Get.s (Get.s (Get.z))))))) ma_nil))) (me_b (me_cmp (op_inD (un65 hr)) (o_inL (α := PySem.Str)) rfl (me_b (me_var (pv 5) (Get.s (Get.s (Get.s (Get.s (Get.s (Get.z)))))))) (me_b (me_var (pv 4) (Get.s (Get.s (Get.s (Get.s (Get.z)))))))))))) (fun _ _ _ _ _ => (me_var (pv 5) (Get.s (Get.s (Get.s (Get.s (Get.s (Get.z))))))))))))))
theorem b_Groups_put_mark (T : Txt K mg) : Binds K (fdOf K ("Groups", some "put_mark")) ["self", "name", "mark"] [] := T.d_Groups_put_mark.bindsN fun _ _ _ _ _ _ us hl => match us, hl with | [_, _, _], _ => rfl
theorem sc_Groups_sleep : FnScope ["self", "name"] ["self", "name"] (defScope s_Groups_sleep) := ⟨rfl, rfl, rfl, by decide +kernel, rfl, by decide +kernel, by decide +kernel⟩
abbrev L_Groups_sleep (K : PySem.W.Frag) : Lay T_Groups_sleep := (.cons 0 .sh (Enc.enc : Hn → M.D) (.cons 1 .sh (Enc.enc : PySem.Str → M.D) (.wld (tbw K) (encW : Wo → M.D))))
theorem wl_Groups_sleep : Wl (L_Groups_sleep K) (encW : Wo → M.D) gw_Groups_sleep pw_Groups_sleep := (Wl.s (Wl.s Wl.z))
theorem wr_Groups_sleep : Wr false (L_Groups_sleep K) (encW : Wo → M.D) gw_Groups_sleep := (Wr.s (Wr.s Wr.w))
theorem wv_Groups_sleep : Wv (L_Groups_sleep K) (encW : Wo → M.D) gw_Groups_sleep := (Wv.s (Wv.s Wv.z))
abbrev E_Groups_sleep : A_Groups_sleep → List M.D := consD (Enc.enc : Hn → M.D) (consD (Enc.enc : PySem.Str → M.D) (nilD))
set_option maxHeartbeats 8000000 in
theorem ok_Groups_sleep (T : Txt K mg) : FnOk P w K mg base (L2.CX P w) 19 (He.fAd K ("Groups", some "sleep")) (fdOf K ("Groups", some "sleep")) ["self", "name"] (spW K (tbw K) encW E_Groups_sleep .ow (Enc.enc : (List PySem.Str) → M.D) Groups_sleep) := by
  refine def_okW (n := 2) (l := L_Groups_sleep K) (F := F_Groups_sleep) wl_Groups_sleep T.d_Groups_sleep sc_Groups_sleep rfl (IniW.s (IniW.s IniW.z)) (fun _ => rfl) fun cdv A outer s H E hr => ?_
  exact (mss_one (msx_ret (mx_meth wl_Groups_sleep wr_Groups_sleep nf_put_mark (rows_cons (MRowS.of T.c_Groups T.m_Groups_put_mark (ok_Groups_put_mark T) (hr.mono (by decide)) (b_Groups_put_mark T) .nil (takes_of rfl rfl rfl rfl) sp0_nil) rows_nil) (mx_of (me_var (pv 0) (Get.z))) (mxa_cons (mx_of (me_var (pv 1) (Get.s (Get.z)))) (mxa_cons (mx_of me_bl) mxa_nil)))))
theorem b_Groups_sleep (T : Txt K mg) : Binds K (fdOf K ("Groups", some "sleep")) ["self", "name"] [] := T.d_Groups_sleep.bindsN fun _ _ _ _ _ _ us hl => match us, hl with | [_, _], _ => rfl
theorem sc_Groups_wake : FnScope ["self", "name"] ["self", "name"] (defScope s_Groups_wake) := ⟨rfl, rfl, rfl, by decide +kernel, rfl, by decide +kernel, by decide +kernel⟩
abbrev L_Groups_wake (K : PySem.W.Frag) : Lay T_Groups_wake := (.cons 0 .sh (Enc.enc : Hn → M.D) (.cons 1 .sh (Enc.enc : PySem.Str → M.D) (.wld (tbw K) (encW : Wo → M.D))))
theorem wl_Groups_wake : Wl (L_Groups_wake K) (encW : Wo → M.D) gw_Groups_wake pw_Groups_wake := (Wl.s (Wl.s Wl.z))
theorem wr_Groups_wake : Wr false (L_Groups_wake K) (encW : Wo → M.D) gw_Groups_wake := (Wr.s (Wr.s Wr.w))
theorem wv_Groups_wake : Wv (L_Groups_wake K) (encW : Wo → M.D) gw_Groups_wake := (Wv.s (Wv.s Wv.z))
abbrev E_Groups_wake : A_Groups_wake → List M.D := consD (Enc.enc : Hn → M.D) (consD (Enc.enc : PySem.Str → M.D) (nilD))
set_option maxHeartbeats 8000000 in
theorem ok_Groups_wake (T : Txt K mg) : FnOk P w K mg base (L2.CX P w) 19 (He.fAd K ("Groups", some "wake")) (fdOf K ("Groups", some "wake")) ["self", "name"] (spW K (tbw K) encW E_Groups_wake .ow (Enc.enc : (List PySem.Str) → M.D) Groups_wake) := by
  refine def_okW (n := 2) (l := L_Groups_wake K) (F := F_Groups_wake) wl_Groups_wake T.d_Groups_wake sc_Groups_wake rfl (IniW.s (IniW.s IniW.z)) (fun _ => rfl) fun cdv A outer s H E hr => ?_
  exact (mss_one (msx_ret (mx_meth wl_Groups_wake wr_Groups_wake nf_put_mark (rows_cons (MRowS.of T.c_Groups T.m_Groups_put_mark (ok_Groups_put_mark T) (hr.mono (by decide)) (b_Groups_put_mark T) .nil (takes_of rfl rfl rfl rfl) sp0_nil) rows_nil) (mx_of (me_var (pv 0) (Get.z))) (mxa_cons (mx_of (me_var (pv 1) (Get.s (Get.z)))) (mxa_cons (mx_of me_bl) mxa_nil)))))
theorem b_Groups_wake (T : Txt K mg) : Binds K (fdOf K ("Groups", some "wake")) ["self", "name"] [] := T.d_Groups_wake.bindsN fun _ _ _ _ _ _ us hl => match us, hl with | [_, _], _ => rfl
theorem sc_Groups_marked : FnScope ["self", "name"] ["self", "name"] (defScope s_Groups_marked) := ⟨rfl, rfl, rfl, by decide +kernel, rfl, by decide +kernel, by decide +kernel⟩
abbrev L_Groups_marked (K : PySem.W.Frag) : Lay T_Groups_marked := (.cons 0 .sh (Enc.enc : Hn → M.D) (.cons 1 .sh (Enc.enc : PySem.Str → M.D) (.rwd (tbs K) (encW : Wo → M.D))))
theorem wr_Groups_marked : Wr true (L_Groups_marked K) (encW : Wo → M.D) gw_Groups_marked := (Wr.s (Wr.s Wr.r))
theorem wv_Groups_marked : Wv (L_Groups_marked K) (encW : Wo → M.D) gw_Groups_marked := (Wv.s (Wv.s Wv.r))
abbrev E_Groups_marked : A_Groups_marked → List M.D := consD (Enc.enc : Hn → M.D) (consD (Enc.enc : PySem.Str → M.D) (nilD))
set_option maxHeartbeats 8000000 in
theorem ok_Groups_marked (T : Txt K mg) : FnOk P w K mg base (L2.CX P w) 5 (He.fAd K ("Groups", some "marked")) (fdOf K ("Groups", some "marked")) ["self", "name"] (spR K (tbs K) encW E_Groups_marked .sh (Enc.enc : Bool → M.D) Groups_marked) := by
  refine def_okR (n := 2) (l := L_Groups_marked K) (F := F_Groups_marked) T.d_Groups_marked sc_Groups_marked rfl (IniR.s (IniR.s IniR.z)) (fun _ => rfl) fun cdv A outer s H E hr => ?_
  exact (mss_cons (ms_drop (mo_e (mo_methR wv_Groups_marked wr_Groups_marked nf_sure (rows_cons (MRowS.of T.c_Groups T.m_Groups_sure (ok_Groups_sure T) (hr.mono (by decide)) (b_Groups_sure T) .nil (takes_of rfl rfl rfl rfl) sp0_nil) rows_nil) (me_var (pv 0) (Get.z)) (ma_cons (me_var (pv 1) (Get.s (Get.z))) ma_nil))))
  (mss_one (ms_ret (me_dget (un65 hr) (me_b (me_fldR wr_Groups_marked fl_marks (inl_cons ⟨T.c_Groups, T.n_Groups_marks⟩ inl_nil) (me_var (pv 0) (Get.z)))) (me_b (me_var (pv 1) (Get.s (Get.z))))))))
theorem b_Groups_marked (T : Txt K mg) : Binds K (fdOf K ("Groups", some "marked")) ["self", "name"] [] := T.d_Groups_marked.bindsN fun _ _ _ _ _ _ us hl => match us, hl with | [_, _], _ => rfl
theorem sc_truth_is : FnScope ["_law_found", "_law_due"] ["_law_found", "_law_due"] (defScope s_truth_is) := ⟨rfl, rfl, rfl, by decide +kernel, rfl, by decide +kernel, by decide +kernel⟩
abbrev L_truth_is (K : PySem.W.Frag) : Lay T_truth_is := (.cons 0 .sh (Enc.enc : Bool → M.D) (.cons 1 .sh (Enc.enc : Bool → M.D) (.nil (tbs K))))
abbrev E_truth_is : A_truth_is → List M.D := consD (Enc.enc : Bool → M.D) (consD (Enc.enc : Bool → M.D) (nilD))
set_option maxHeartbeats 8000000 in
theorem ok_truth_is (T : Txt K mg) : FnOk P w K mg base (L2.CX P w) 1 (He.fAd K ("_law_truth_is", none)) (fdOf K ("_law_truth_is", none)) ["_law_found", "_law_due"] (spP K (tbs K) E_truth_is .sh (Enc.enc : Bool → M.D) truth_is) := by
  refine def_ok (n := 2) (l := L_truth_is K) (F := F_truth_is) T.d_truth_is sc_truth_is rfl (Ini.s (Ini.s Ini.z)) (fun _ => rfl) fun cdv A outer s H E hr => ?_
  exact (mss_one (ms_ret (me_and (me_callB call_isi (o_isi (kit_ty (by decide +kernel))) rfl T.z_isinstance (mab_cons (me_b (me_var (pv 0) (Get.z))) (mab_cons (me_b (me_ty (n := "bool") rfl T.z_bool)) mab_nil))) (pe_one (me_cmp (op_eqD hr.units) (o_eq (α := Bool)) (nomark _) (me_b (me_var (pv 0) (Get.z))) (me_b (me_var (pv 1) (Get.s (Get.z)))))))))
theorem b_truth_is (T : Txt K mg) : Binds K (fdOf K ("_law_truth_is", none)) ["_law_found", "_law_due"] [] := T.d_truth_is.bindsN fun _ _ _ _ _ _ us hl => match us, hl with | [_, _], _ => rfl
theorem sc_stands : FnScope ["_law_told", "_law_marks", "_law_name_here", "_law_mark", "_law_awake", "_law_one"] ["_law_told", "_law_marks"] (defScope s_stands) := ⟨rfl, rfl, rfl, by decide +kernel, rfl, by decide +kernel, by decide +kernel⟩
abbrev L_stands (K : PySem.W.Frag) : Lay T_stands := (.cons 0 .sh (Enc.enc : Hn → M.D) (.cons 1 .sh (Enc.enc : (Dct PySem.Str Bool) → M.D) (.cons 2 .sh (Enc.enc : PySem.Str → M.D) (.cons 3 .sh (Enc.enc : Bool → M.D) (.cons 4 .sh (Enc.enc : Bool → M.D) (.cons 5 .sh (Enc.enc : PySem.Str → M.D) (.rwd (tbs K) (encW : Wo → M.D))))))))
theorem wr_stands : Wr true (L_stands K) (encW : Wo → M.D) gw_stands := (Wr.s (Wr.s (Wr.s (Wr.s (Wr.s (Wr.s Wr.r))))))
theorem wv_stands : Wv (L_stands K) (encW : Wo → M.D) gw_stands := (Wv.s (Wv.s (Wv.s (Wv.s (Wv.s (Wv.s Wv.r))))))
abbrev E_stands : A_stands → List M.D := consD (Enc.enc : Hn → M.D) (consD (Enc.enc : (Dct PySem.Str Bool) → M.D) (nilD))
set_option maxHeartbeats 8000000 in
theorem ok_stands (T : Txt K mg) : FnOk P w K mg base (L2.CX P w) 7 (He.fAd K ("_law_stands", none)) (fdOf K ("_law_stands", none)) ["_law_told", "_law_marks"] (spR K (tbs K) encW E_stands .sh (Enc.enc : Bool → M.D) stands) := by
  refine def_okR (n := 6) (l := L_stands K) (F := F_stands) T.d_stands sc_stands rfl (IniR.s (IniR.s (IniR.k (IniR.k (IniR.k (IniR.k IniR.z)))))) (fun _ => rfl) fun cdv A outer s H E hr => ?_
  exact (mss_cons (ms_forIt (adr_var (pv 1) (Get.s (Get.z))) (passes_of rfl) rfl (mg_tup rfl (mgs_cons (mg_name (us := [2, 3]) (pg_name (i := 2) sc_stands.nd rfl (Or.inl rfl)) (Put.s (Put.s (Put.z rfl)))) (mgs_cons (mg_name (us := [2, 3]) (pg_name (i := 3) sc_stands.nd rfl (Or.inl rfl)) (Put.s (Put.s (Put.s (Put.z rfl))))) mgs_nil)) (fun _ => rfl) (fun _ => rfl))
  (mss_cons (ms_if (mt_not (mt_val (mo_e (mo_call (ok_truth_is T) (hr.mono (by decide)) rfl T.g_truth_is T.d_truth_is.kp (b_truth_is T) .nil (takes_of rfl rfl rfl rfl) (ma_cons (mo_e (mo_methR wv_stands wr_stands nf_marked (rows_cons (MRowS.of T.c_Groups T.m_Groups_marked (ok_Groups_marked T) (hr.mono (by decide)) (b_Groups_marked T) .nil (takes_of rfl rfl rfl rfl) sp0_nil) rows_nil) (me_var (pv 0) (Get.z)) (ma_cons (me_var (pv 2) (Get.s (Get.s (Get.z)))) ma_nil))) (ma_cons (me_var (pv 3) (Get.s (Get.s (Get.s (Get.z))))) ma_nil)) (fun _ => (List.append_nil _).symm) (fun _ _ => .nil)))))
  (mss_one (ms_ret me_bl))
  mss_nil)
  (mss_cons (ms_set 4 (me_o me_bl) sc_stands.nd rfl (Or.inl rfl) (Put.s (Put.s (Put.s (Put.s (Put.z rfl))))))
  (mss_cons (ms_forI (passes_of rfl) rfl (mi_listS (en := (Enc.enc : (List PySem.Str) → M.D)) (fun _ => rfl) (mo_e (mo_methR wv_stands wr_stands nf_chain (rows_cons (MRowS.of T.c_Groups T.m_Groups_chain (ok_Groups_chain T) (hr.mono (by decide)) (b_Groups_chain T) .nil (takes_of rfl rfl rfl rfl) sp0_nil) rows_nil) (me_var (pv 0) (Get.z)) (ma_cons (me_var (pv 2) (Get.s (Get.s (Get.z)))) ma_nil)))) (mg_name (us := [5]) (pg_name (i := 5) sc_stands.nd rfl (Or.inl rfl)) (Put.s (Put.s (Put.s (Put.s (Put.s (Put.z rfl)))))))
  (mss_one (ms_if (mt_val (me_dget (un65 hr) (me_b (me_var (pv 1) (Get.s (Get.z)))) (me_b (me_var (pv 5) (Get.s (Get.s (Get.s (Get.s (Get.s (Get.z))))))))))
  (mss_one (ms_set 4 (me_o me_bl) sc_stands.nd rfl (Or.inl rfl) (Put.s (Put.s (Put.s (Put.s (Put.z rfl)))))))
  mss_nil)))
  (mss_one (ms_if (mt_not (mt_val (mo_e (mo_call (ok_truth_is T) (hr.mono (by decide)) rfl T.g_truth_is T.d_truth_is.kp (b_truth_is T) .nil (takes_of rfl rfl rfl rfl) (ma_cons (mo_e (mo_methR wv_stands wr_stands nf_awake (rows_cons (MRowS.of T.c_Groups T.m_Groups_awake (ok_Groups_awake T) (hr.mono (by decide)) (b_Groups_awake T) .nil (takes_of rfl rfl rfl rfl) sp0_nil) rows_nil) (me_var (pv 0) (Get.z)) (ma_cons (me_var (pv 2) (Get.s (Get.s (Get.z)))) ma_nil))) (ma_cons (me_var (pv 4) (Get.s (Get.s (Get.s (Get.s (Get.z)))))) ma_nil)) (fun _ => (List.append_nil _).symm) (fun _ _ => .nil)))))
  (mss_one (ms_ret me_bl))
  mss_nil))))))
  (mss_one (ms_ret me_bl)))
theorem b_stands (T : Txt K mg) : Binds K (fdOf K ("_law_stands", none)) ["_law_told", "_law_marks"] [] := T.d_stands.bindsN fun _ _ _ _ _ _ us hl => match us, hl with | [_, _], _ => rfl
theorem sc_law : FnScope ["_law_script", "_law_style", "_law_told", "_law_marks", "_law_cell", "_law_names", "_law_above", "_law_name_here", "_law_one"] ["_law_script"] (defScope s_law) := ⟨rfl, rfl, rfl, by decide +kernel, rfl, by decide +kernel, by decide +kernel⟩
abbrev L_law (K : PySem.W.Frag) : Lay T_law := (.cons 0 .sh (Enc.enc : Scr → M.D) (.cons 1 .sh (Enc.enc : Int → M.D) (.cons 2 .sh (Enc.enc : Hn → M.D) (.cons 3 .ow (Enc.enc : (Dct PySem.Str Bool) → M.D) (.cons 3 .sh (Enc.enc : (Dct PySem.Str Bool) → M.D) (.cons 4 .sh (Enc.enc : Int → M.D) (.cons 5 .sh (Enc.enc : (List PySem.Str) → M.D) (.cons 6 .sh (Enc.enc : (Option PySem.Str) → M.D) (.cons 7 .sh (Enc.enc : PySem.Str → M.D) (.cons 8 .sh (Enc.enc : PySem.Str → M.D) (.wld (tbw K) (encW : Wo → M.D))))))))))))
theorem wl_law : Wl (L_law K) (encW : Wo → M.D) gw_law pw_law := (Wl.s (Wl.s (Wl.s (Wl.s (Wl.s (Wl.s (Wl.s (Wl.s (Wl.s (Wl.s Wl.z))))))))))
theorem wr_law : Wr false (L_law K) (encW : Wo → M.D) gw_law := (Wr.s (Wr.s (Wr.s (Wr.s (Wr.s (Wr.s (Wr.s (Wr.s (Wr.s (Wr.s Wr.w))))))))))
abbrev Lr_law (K : PySem.W.Frag) : Lay T_law := (.cons 0 .sh (Enc.enc : Scr → M.D) (.cons 1 .sh (Enc.enc : Int → M.D) (.cons 2 .sh (Enc.enc : Hn → M.D) (.cons 3 .sh (Enc.enc : (Dct PySem.Str Bool) → M.D) (.cons 3 .sh (Enc.enc : (Dct PySem.Str Bool) → M.D) (.cons 4 .sh (Enc.enc : Int → M.D) (.cons 5 .sh (Enc.enc : (List PySem.Str) → M.D) (.cons 6 .sh (Enc.enc : (Option PySem.Str) → M.D) (.cons 7 .sh (Enc.enc : PySem.Str → M.D) (.cons 8 .sh (Enc.enc : PySem.Str → M.D) (.rwd (tbs K) (encW : Wo → M.D))))))))))))
theorem wrr_law : Wr true (Lr_law K) (encW : Wo → M.D) gw_law := (Wr.s (Wr.s (Wr.s (Wr.s (Wr.s (Wr.s (Wr.s (Wr.s (Wr.s (Wr.s Wr.r))))))))))
theorem wvr_law : Wv (Lr_law K) (encW : Wo → M.D) gw_law := (Wv.s (Wv.s (Wv.s (Wv.s (Wv.s (Wv.s (Wv.s (Wv.s (Wv.s (Wv.s Wv.r))))))))))
theorem wv_law : Wv (L_law K) (encW : Wo → M.D) gw_law := (Wv.s (Wv.s (Wv.s (Wv.s (Wv.s (Wv.s (Wv.s (Wv.s (Wv.s (Wv.s Wv.z))))))))))
abbrev E_law : A_law → List M.D := consD (Enc.enc : Scr → M.D) (nilD)
set_option maxHeartbeats 8000000 in
theorem ok_law (T : Txt K mg) : FnOk P w K mg base (L2.CX P w) 20 (He.fAd K ("law", none)) (fdOf K ("law", none)) ["_law_script"] (spW K (tbw K) encW E_law .sh (Enc.enc : Bool → M.D) law) := by
  obtain ⟨ds_bd_Groups_add_3, hv_bd_Groups_add_3, bd_Groups_add_3⟩ := bn_Groups_add_3 T
  refine def_okW (n := 9) (l := L_law K) (F := F_law) wl_law T.d_law sc_law rfl (IniW.s (IniW.k (IniW.k (IniW.k (IniW.k (IniW.k (IniW.k (IniW.k (IniW.k (IniW.k IniW.z)))))))))) (fun _ => rfl) fun cdv A outer s H E hr => ?_
  exact (mss_cons (ms_set 1 (me_o (mo_e (mo_call (ok_cell_at T) (hr.mono (by decide)) rfl T.g_cell_at T.d_cell_at.kp (b_cell_at T) .nil (takes_of rfl rfl rfl rfl) (ma_cons (me_var (pv 0) (Get.z)) (ma_cons me_int ma_nil)) (fun _ => (List.append_nil _).symm) (fun _ _ => .nil)))) sc_law.nd rfl (Or.inl rfl) (Put.s (Put.z rfl)))
  (mss_cons (msx_set 2 (mx_new0 (c := "Groups") (mk := (Wo.Groups none none)) (fa := (fun a => a)) wl_law rfl rfl T.k_Groups (ok_Groups_init T) (hr.mono (by decide)) rfl T.g_Groups (b_Groups_init T) .nil (takes_of rfl rfl rfl rfl) (fun _ => (List.append_nil _).symm) (fun _ _ => .nil)) sc_law.nd rfl (Or.inl rfl) (Put.s (Put.s (Put.z rfl))))
  (mss_cons (ms_set 3 (mo_dnew (κ := PySem.Str) (α := Bool)) sc_law.nd rfl (Or.inr rfl) (Put.s (Put.s (Put.s (Put.zc rfl)))))
  (mss_cons (ms_forI (passes_of rfl) rfl (mi_listS (en := (Enc.enc : (List Int) → M.D)) (fun _ => rfl) (mo_e (mo_slC (me_b (me_var (pv 0) (Get.z))) (mp_some me_int) (mp_some me_int)))) (mg_name (us := [4]) (pg_name (i := 4) sc_law.nd rfl (Or.inl rfl)) (Put.s (Put.s (Put.s (Put.s (Put.s (Put.z rfl)))))))
  (mss_cons (ms_set 5 (me_o (mo_e (mo_callTy (call_listD rfl) o_listDk rfl T.z_list (mab_cons (mb_var (pv 3) (Get.s (Get.s (Get.s (Get.z))))) mab_nil)))) sc_law.nd rfl (Or.inr rfl) (Put.s (Put.s (Put.s (Put.s (Put.s (Put.s (Put.z rfl))))))))
  (mss_cons (ms_if (PW.pt (mw_or (mt_cmp (op_eqD hr.units) (o_eq (α := (List PySem.Str))) (nomark _) (me_b (me_var (pv 5) (Get.s (Get.s (Get.s (Get.s (Get.s (Get.s (Get.z))))))))) (mo_b (mo_lst (ea := (Enc.enc : (List PySem.Str) → M.D)) ma_nil (fun _ => rfl)))) (pw_or1 (PW.pt (mw_and (mt_cmp op_lt o_lt (nomark _) (me_b (me_op op_mod o_mod (me_b (me_var (pv 4) (Get.s (Get.s (Get.s (Get.s (Get.s (Get.z)))))))) (me_b me_int))) (me_b me_int)) (pw_and1 (mt_cmp op_lt o_lt (nomark _) (me_b (me_callB call_len_seq o_lenL rfl T.z_len (mab_cons (me_b (me_var (pv 5) (Get.s (Get.s (Get.s (Get.s (Get.s (Get.s (Get.z))))))))) mab_nil))) (me_b me_int))))))))
  (mss_cons (ms_set 6 (me_o (me_no (α := PySem.Str) me_non)) sc_law.nd rfl (Or.inl rfl) (Put.s (Put.s (Put.s (Put.s (Put.s (Put.s (Put.s (Put.z rfl)))))))))
  (mss_cons (ms_if (PW.pt (mw_and (mt_cmp (op_neD hr.units) (o_ne (α := (List PySem.Str))) (nomark _) (me_b (me_var (pv 5) (Get.s (Get.s (Get.s (Get.s (Get.s (Get.s (Get.z))))))))) (mo_b (mo_lst (ea := (Enc.enc : (List PySem.Str) → M.D)) ma_nil (fun _ => rfl)))) (pw_and1 (mt_cmp op_gt o_gt (nomark _) (me_b (me_op op_mod o_mod (me_b (me_op op_fdivW o_div (me_b (me_var (pv 4) (Get.s (Get.s (Get.s (Get.s (Get.s (Get.z)))))))) (me_b me_int))) (me_b me_int))) (me_b me_int)))))
  (mss_one (ms_set 6 (me_o (me_some (mo_e (mo_call (ok_named T) (hr.mono (by decide)) rfl T.g_named T.d_named.kp (b_named T) .nil (takes_of rfl rfl rfl rfl) (ma_cons (me_var (pv 5) (Get.s (Get.s (Get.s (Get.s (Get.s (Get.s (Get.z)))))))) (ma_cons (me_op op_fdivW o_div (me_b (me_var (pv 4) (Get.s (Get.s (Get.s (Get.s (Get.s (Get.z)))))))) (me_b me_int)) ma_nil)) (fun _ => (List.append_nil _).symm) (fun _ _ => .nil))))) sc_law.nd rfl (Or.inl rfl) (Put.s (Put.s (Put.s (Put.s (Put.s (Put.s (Put.s (Put.z rfl))))))))))
  mss_nil)
  (mss_cons (ms_if (PW.pt (mw_and (mt_cmp op_notN (o_notN (α := PySem.Str)) (nomark _) (me_b (me_var (pv 6) (Get.s (Get.s (Get.s (Get.s (Get.s (Get.s (Get.s (Get.z)))))))))) (me_b me_non)) (pw_and1 (mt_cmp op_gt o_gt (nomark _) (me_b (me_callB call_len_seq o_lenL rfl T.z_len (mab_cons (mo_b (mo_methR wv_law wr_law nf_chain (rows_cons (MRowS.of T.c_Groups T.m_Groups_chain (ok_Groups_chain T) (hr.mono (by decide)) (b_Groups_chain T) .nil (takes_of rfl rfl rfl rfl) sp0_nil) rows_nil) (me_var (pv 2) (Get.s (Get.s (Get.z)))) (ma_cons (me_unO (α := PySem.Str) (me_var (pv 6) (Get.s (Get.s (Get.s (Get.s (Get.s (Get.s (Get.s (Get.z)))))))))) ma_nil))) mab_nil))) (me_b me_int)))))
  (mss_one (ms_set 6 (me_o (me_some (me_ix ix_list o_ixL (me_b (me_var (pv 5) (Get.s (Get.s (Get.s (Get.s (Get.s (Get.s (Get.z))))))))) (me_b me_int)))) sc_law.nd rfl (Or.inl rfl) (Put.s (Put.s (Put.s (Put.s (Put.s (Put.s (Put.s (Put.z rfl))))))))))
  mss_nil)
  (mss_cons (ms_set 7 (me_o (mo_e (mo_call (ok_name T) (hr.mono (by decide)) rfl T.g_name T.d_name.kp (b_name T) .nil (takes_of rfl rfl rfl rfl) (ma_cons (me_callB call_len_seq o_lenL rfl T.z_len (mab_cons (me_b (me_var (pv 5) (Get.s (Get.s (Get.s (Get.s (Get.s (Get.s (Get.z))))))))) mab_nil)) (ma_cons (me_var (pv 1) (Get.s (Get.z))) ma_nil)) (fun _ => (List.append_nil _).symm) (fun _ _ => .nil)))) sc_law.nd rfl (Or.inl rfl) (Put.s (Put.s (Put.s (Put.s (Put.s (Put.s (Put.s (Put.s (Put.z rfl))))))))))
  (mss_cons (msx_drop (mx_meth wl_law wr_law nf_add (rows_cons (MRowS.of T.c_Groups T.m_Groups_add (ok_Groups_add T) (hr.mono (by decide)) bd_Groups_add_3 hv_bd_Groups_add_3 (takes_of rfl rfl rfl rfl) sp0_nil) rows_nil) (mx_of (me_var (pv 2) (Get.s (Get.s (Get.z))))) (mxa_cons (mx_of (me_var (pv 7) (Get.s (Get.s (Get.s (Get.s (Get.s (Get.s (Get.s (Get.s (Get.z))))))))))) (mxa_cons (mx_of (me_var (pv 6) (Get.s (Get.s (Get.s (Get.s (Get.s (Get.s (Get.s (Get.z)))))))))) mxa_nil))))
  (mss_one (ms_dput (Tak.s (Tak.s (Tak.s (Tak.z)))) (pv 3) (me_var (pv 7) (Get.s (Get.s (Get.s (Get.s (Get.s (Get.s (Get.s (Get.s (Get.z)))))))))) me_bl (un65 hr))))))))
  (mss_one (ms_if (mt_cmp op_lt o_lt (nomark _) (me_b (me_op op_mod o_mod (me_b (me_var (pv 4) (Get.s (Get.s (Get.s (Get.s (Get.s (Get.z)))))))) (me_b me_int))) (me_b me_int))
  (mss_cons (ms_set 7 (me_o (mo_e (mo_call (ok_named T) (hr.mono (by decide)) rfl T.g_named T.d_named.kp (b_named T) .nil (takes_of rfl rfl rfl rfl) (ma_cons (me_var (pv 5) (Get.s (Get.s (Get.s (Get.s (Get.s (Get.s (Get.z)))))))) (ma_cons (me_op op_fdivW o_div (me_b (me_var (pv 4) (Get.s (Get.s (Get.s (Get.s (Get.s (Get.z)))))))) (me_b me_int)) ma_nil)) (fun _ => (List.append_nil _).symm) (fun _ _ => .nil)))) sc_law.nd rfl (Or.inl rfl) (Put.s (Put.s (Put.s (Put.s (Put.s (Put.s (Put.s (Put.s (Put.z rfl))))))))))
  (mss_cons (msx_drop (mx_meth wl_law wr_law nf_sleep (rows_cons (MRowS.of T.c_Groups T.m_Groups_sleep (ok_Groups_sleep T) (hr.mono (by decide)) (b_Groups_sleep T) .nil (takes_of rfl rfl rfl rfl) sp0_nil) rows_nil) (mx_of (me_var (pv 2) (Get.s (Get.s (Get.z))))) (mxa_cons (mx_of (me_var (pv 7) (Get.s (Get.s (Get.s (Get.s (Get.s (Get.s (Get.s (Get.s (Get.z))))))))))) mxa_nil)))
  (mss_one (ms_dput (Tak.s (Tak.s (Tak.s (Tak.z)))) (pv 3) (me_var (pv 7) (Get.s (Get.s (Get.s (Get.s (Get.s (Get.s (Get.s (Get.s (Get.z)))))))))) me_bl (un65 hr)))))
  (mss_cons (ms_set 7 (me_o (mo_e (mo_call (ok_named T) (hr.mono (by decide)) rfl T.g_named T.d_named.kp (b_named T) .nil (takes_of rfl rfl rfl rfl) (ma_cons (me_var (pv 5) (Get.s (Get.s (Get.s (Get.s (Get.s (Get.s (Get.z)))))))) (ma_cons (me_op op_fdivW o_div (me_b (me_var (pv 4) (Get.s (Get.s (Get.s (Get.s (Get.s (Get.z)))))))) (me_b me_int)) ma_nil)) (fun _ => (List.append_nil _).symm) (fun _ _ => .nil)))) sc_law.nd rfl (Or.inl rfl) (Put.s (Put.s (Put.s (Put.s (Put.s (Put.s (Put.s (Put.s (Put.z rfl))))))))))
  (mss_cons (ms_if (mt_cmp (op_eqD hr.units) (o_eq (α := Int)) (nomark _) (me_b (me_op op_mod o_mod (me_b (me_op op_fdivW o_div (me_b (me_var (pv 4) (Get.s (Get.s (Get.s (Get.s (Get.s (Get.z)))))))) (me_b me_int))) (me_b me_int))) (me_b me_int))
  (mss_one (ms_set 7 (me_o (me_ix ix_list o_ixL (mo_b (mo_lc (en := (Enc.enc : (List PySem.Str) → M.D)) rfl sc_law.nd rfl (fun _ => rfl) (mi_listS (en := (Enc.enc : (List PySem.Str) → M.D)) (fun _ => rfl) (me_var (pv 5) (Get.s (Get.s (Get.s (Get.s (Get.s (Get.s (Get.z))))))))) (blkOk_by (own := [("_law_one", 8)]) (N := ["_law_script", "_law_style", "_law_told", "_law_marks", "_law_cell", "_law_names", "_law_above", "_law_name_here", "_law_one"]) (sc := defScope s_law) (by decide +kernel)) (Wip.keep (Wip.keep (Wip.keep (Wip.keep (Wip.keep (Wip.keep (Wip.keep (Wip.keep (Wip.keep (Wip.drop Wip.w)))))))))) (fun _ _ _ _ _ => (mg_name (us := [8]) (pg_name (i := 8) sc_law.nd rfl (Or.inl rfl)) (Put.s (Put.s (Put.s (Put.s (Put.s (Put.s (Put.s (Put.s (Put.s (Put.z rfl)))))))))))) (fun _ _ _ _ _ => (mts_one (PW.pt (mw_or (mt_val (me_dget (un65 hr) (mb_var (pv 3) (Get.s (Get.s (Get.s (Get.z))))) (me_b (me_var (pv 8) (Get.s (Get.s (Get.s (Get.s (Get.s (Get.s (Get.s (Get.s (Get.s (Get.z)))))))))))))) (pw_or1 (mt_cmp (op_eqD hr.units) (o_eq (α := PySem.Str)) (nomark _) (me_b (me_var (pv 8) (Get.s (Get.s (Get.s (Get.s (Get.s (Get.s (Get.s (Get.s (Get.s (Get.z)))))))))))) (me_b (me_ix ix_list o_ixL (me_b (me_var (pv 5) (Get.s (Get.s (Get.s (Get.s (Get.s (Get.s (Get.z))))))))) (me_b me_int))))))))) (fun _ _ _ _ _ => (me_var (pv 8) (Get.s (Get.s (Get.s (Get.s (Get.s (Get.s (Get.s (Get.s (Get.s (Get.z)))))))))))))) (me_b (me_un un_neg o_neg (me_b me_int))))) sc_law.nd rfl (Or.inl rfl) (Put.s (Put.s (Put.s (Put.s (Put.s (Put.s (Put.s (Put.s (Put.z rfl)))))))))))
  mss_nil)
  (mss_cons (msx_drop (mx_meth wl_law wr_law nf_wake (rows_cons (MRowS.of T.c_Groups T.m_Groups_wake (ok_Groups_wake T) (hr.mono (by decide)) (b_Groups_wake T) .nil (takes_of rfl rfl rfl rfl) sp0_nil) rows_nil) (mx_of (me_var (pv 2) (Get.s (Get.s (Get.z))))) (mxa_cons (mx_of (me_var (pv 7) (Get.s (Get.s (Get.s (Get.s (Get.s (Get.s (Get.s (Get.s (Get.z))))))))))) mxa_nil)))
  (mss_one (ms_dput (Tak.s (Tak.s (Tak.s (Tak.z)))) (pv 3) (me_var (pv 7) (Get.s (Get.s (Get.s (Get.s (Get.s (Get.s (Get.s (Get.s (Get.z)))))))))) me_bl (un65 hr)))))))))
  (mss_one (ms_if (mt_not (mt_val (mo_e (mo_ro (lr := Lr_law K) (mo_callR wvr_law (fa := (fun a => a)) (ok_stands T) (hr.mono (by decide)) rfl T.g_stands T.d_stands.kp (b_stands T) .nil (takes_of rfl rfl rfl rfl) (ma_cons (me_var (pv 2) (Get.s (Get.s (Get.z)))) (ma_cons (me_var (pv 3) (Get.s (Get.s (Get.s (Get.z))))) ma_nil)) (fun _ => (List.append_nil _).symm) (fun _ _ => .nil))))))
  (mss_one (ms_ret me_bl))
  mss_nil)))))
  (mss_one (ms_ret me_bl))))))
theorem b_law (T : Txt K mg) : Binds K (fdOf K ("law", none)) ["_law_script"] [] := T.d_law.bindsN fun _ _ _ _ _ _ us hl => match us, hl with | [_], _ => rfl
end
end M
namespace W
open PySem PySem.Spec PyProof.Rows L2
def dd_NoGroup_init : He.DefD := ⟨("NoGroup", some "__init__"), "__init__", "NoGroup.__init__", defArgs s_NoGroup_init, defBody s_NoGroup_init, defScope s_NoGroup_init, [], []⟩
def dd_Groups_sure : He.DefD := ⟨("Groups", some "sure"), "sure", "Groups.sure", defArgs s_Groups_sure, defBody s_Groups_sure, defScope s_Groups_sure, [], []⟩
def dd_Twice_init : He.DefD := ⟨("Twice", some "__init__"), "__init__", "Twice.__init__", defArgs s_Twice_init, defBody s_Twice_init, defScope s_Twice_init, [], []⟩
def dd_Groups_chain : He.DefD := ⟨("Groups", some "chain"), "chain", "Groups.chain", defArgs s_Groups_chain, defBody s_Groups_chain, defScope s_Groups_chain, [], []⟩
def dd_TooDeep_init : He.DefD := ⟨("TooDeep", some "__init__"), "__init__", "TooDeep.__init__", defArgs s_TooDeep_init, defBody s_TooDeep_init, defScope s_TooDeep_init, [], []⟩
def dd_Groups_gathered : He.DefD := ⟨("Groups", some "gathered"), "gathered", "Groups.gathered", defArgs s_Groups_gathered, defBody s_Groups_gathered, defScope s_Groups_gathered, [], []⟩
def dd_Groups_within : He.DefD := ⟨("Groups", some "within"), "within", "Groups.within", defArgs s_Groups_within, defBody s_Groups_within, defScope s_Groups_within, [], []⟩
def dd_Groups_awake : He.DefD := ⟨("Groups", some "awake"), "awake", "Groups.awake", defArgs s_Groups_awake, defBody s_Groups_awake, defScope s_Groups_awake, [], []⟩
def dd_Groups_put_mark : He.DefD := ⟨("Groups", some "put_mark"), "put_mark", "Groups.put_mark", defArgs s_Groups_put_mark, defBody s_Groups_put_mark, defScope s_Groups_put_mark, [], []⟩
def dd_Groups_marked : He.DefD := ⟨("Groups", some "marked"), "marked", "Groups.marked", defArgs s_Groups_marked, defBody s_Groups_marked, defScope s_Groups_marked, [], []⟩
def dd_truth_is : He.DefD := ⟨("_law_truth_is", none), "_law_truth_is", "_law_truth_is", defArgs s_truth_is, defBody s_truth_is, defScope s_truth_is, [], []⟩
def dd_cell_at : He.DefD := ⟨("_law_cell_at", none), "_law_cell_at", "_law_cell_at", defArgs s_cell_at, defBody s_cell_at, defScope s_cell_at, [], []⟩
def dd_Groups_init : He.DefD := ⟨("Groups", some "__init__"), "__init__", "Groups.__init__", defArgs s_Groups_init, defBody s_Groups_init, defScope s_Groups_init, [], []⟩
def dd_named : He.DefD := ⟨("_law_named", none), "_law_named", "_law_named", defArgs s_named, defBody s_named, defScope s_named, [], []⟩
def dd_name : He.DefD := ⟨("_law_name", none), "_law_name", "_law_name", defArgs s_name, defBody s_name, defScope s_name, [], []⟩
def dd_Groups_add : He.DefD := ⟨("Groups", some "add"), "add", "Groups.add", defArgs s_Groups_add, defBody s_Groups_add, defScope s_Groups_add, [.non], []⟩
def dd_Groups_sleep : He.DefD := ⟨("Groups", some "sleep"), "sleep", "Groups.sleep", defArgs s_Groups_sleep, defBody s_Groups_sleep, defScope s_Groups_sleep, [], []⟩
def dd_Groups_wake : He.DefD := ⟨("Groups", some "wake"), "wake", "Groups.wake", defArgs s_Groups_wake, defBody s_Groups_wake, defScope s_Groups_wake, [], []⟩
def dd_stands : He.DefD := ⟨("_law_stands", none), "_law_stands", "_law_stands", defArgs s_stands, defBody s_stands, defScope s_stands, [], []⟩
def dd_law : He.DefD := ⟨("law", none), "law", "law", defArgs s_law, defBody s_law, defScope s_law, [], []⟩
def fn : List He.DefD := ([dd_NoGroup_init, dd_Groups_sure, dd_Twice_init, dd_Groups_chain, dd_TooDeep_init, dd_Groups_gathered, dd_Groups_within, dd_Groups_awake, dd_Groups_put_mark, dd_Groups_marked, dd_truth_is, dd_cell_at, dd_Groups_init, dd_named, dd_name, dd_Groups_add, dd_Groups_sleep, dd_Groups_wake, dd_stands, dd_law] : List He.DefD)
def fa : List He.Fa := ([.free "len", .cls "Groups", .noat "Groups" "uppers", .noat "Groups" "marks", .free "list", .glo "WakeError", .glo "NoGroup", .meth "Groups" "sure", .int "DEEPEST" 8, .glo "Twice", .meth "Groups" "chain", .glo "TooDeep", .meth "Groups" "gathered", .free "sorted", .free "any", .meth "Groups" "within", .meth "Groups" "awake", .meth "Groups" "put_mark", .free "bool", .free "isinstance", .meth "Groups" "marked", .glo "_law_truth_is", .glo "_law_cell_at", .glo "Groups", .mkr "Groups", .glo "_law_named", .glo "_law_name", .meth "Groups" "add", .meth "Groups" "sleep", .meth "Groups" "wake"] : List He.Fa) ++ ([.glo "_law_stands", .glo "law"] : List He.Fa)
def exs : List (PySem.W.Frag → Bool) := ([M.excIB "NoGroup", M.clsVeB "WakeError", M.excIB "Twice", M.excIB "TooDeep"] : List (PySem.W.Frag → Bool))
def exB (K : PySem.W.Frag) : Bool := exs.all fun f => f K
theorem exs_ok {K : PySem.W.Frag} (h : exB K = true) (i : Nat) {f : PySem.W.Frag → Bool} (e : exs[i]? = some f) : f K = true := List.all_eq_true.mp h f (List.mem_of_getElem? e)
theorem txt_mk {h : Heap} {K : PySem.W.Frag} {mg : Str → Option Value} (X : K.In h) (G : h.Ns mainGlobals mg) (c : SaysW fa fn exB K) : Txt K mg :=
  ⟨He.free_ok X G (c.d.fact 0 (f := .free "len") rfl),
   He.cls_ok (c.d.fact 1 (f := .cls "Groups") rfl),
   He.noat_ok (c.d.fact 2 (f := .noat "Groups" "uppers") rfl),
   He.noat_ok (c.d.fact 3 (f := .noat "Groups" "marks") rfl),
   He.free_ok X G (c.d.fact 4 (f := .free "list") rfl),
   M.excI_ok (exs_ok c.more 0 rfl),
   (let ⟨_, F⟩ := c.d.def_ 0 (d := dd_NoGroup_init) rfl; fnT_mk F),
   He.glo_ok X G (c.d.fact 5 (f := .glo "WakeError") rfl),
   M.clsVe_ok (exs_ok c.more 1 rfl),
   He.glo_ok X G (c.d.fact 6 (f := .glo "NoGroup") rfl),
   (let ⟨_, F⟩ := c.d.def_ 1 (d := dd_Groups_sure) rfl; fnT_mk F),
   He.meth_ok (c.d.fact 7 (f := .meth "Groups" "sure") rfl),
   He.int_ok X G (c.d.fact 8 (f := .int "DEEPEST" 8) rfl),
   M.excI_ok (exs_ok c.more 2 rfl),
   (let ⟨_, F⟩ := c.d.def_ 2 (d := dd_Twice_init) rfl; fnT_mk F),
   He.glo_ok X G (c.d.fact 9 (f := .glo "Twice") rfl),
   (let ⟨_, F⟩ := c.d.def_ 3 (d := dd_Groups_chain) rfl; fnT_mk F),
   He.meth_ok (c.d.fact 10 (f := .meth "Groups" "chain") rfl),
   M.excI_ok (exs_ok c.more 3 rfl),
   (let ⟨_, F⟩ := c.d.def_ 4 (d := dd_TooDeep_init) rfl; fnT_mk F),
   He.glo_ok X G (c.d.fact 11 (f := .glo "TooDeep") rfl),
   He.meth_ok (c.d.fact 12 (f := .meth "Groups" "gathered") rfl),
   He.free_ok X G (c.d.fact 13 (f := .free "sorted") rfl),
   (let ⟨_, F⟩ := c.d.def_ 5 (d := dd_Groups_gathered) rfl; fnT_mk F),
   He.free_ok X G (c.d.fact 14 (f := .free "any") rfl),
   (let ⟨_, F⟩ := c.d.def_ 6 (d := dd_Groups_within) rfl; fnT_mk F),
   He.meth_ok (c.d.fact 15 (f := .meth "Groups" "within") rfl),
   (let ⟨_, F⟩ := c.d.def_ 7 (d := dd_Groups_awake) rfl; fnT_mk F),
   He.meth_ok (c.d.fact 16 (f := .meth "Groups" "awake") rfl),
   (let ⟨_, F⟩ := c.d.def_ 8 (d := dd_Groups_put_mark) rfl; fnT_mk F),
   He.meth_ok (c.d.fact 17 (f := .meth "Groups" "put_mark") rfl),
   He.free_ok X G (c.d.fact 18 (f := .free "bool") rfl),
   He.free_ok X G (c.d.fact 19 (f := .free "isinstance") rfl),
   (let ⟨_, F⟩ := c.d.def_ 9 (d := dd_Groups_marked) rfl; fnT_mk F),
   He.meth_ok (c.d.fact 20 (f := .meth "Groups" "marked") rfl),
   (let ⟨_, F⟩ := c.d.def_ 10 (d := dd_truth_is) rfl; fnT_mk F),
   He.glo_ok X G (c.d.fact 21 (f := .glo "_law_truth_is") rfl),
   (let ⟨_, F⟩ := c.d.def_ 11 (d := dd_cell_at) rfl; fnT_mk F),
   He.glo_ok X G (c.d.fact 22 (f := .glo "_law_cell_at") rfl),
   (let ⟨_, F⟩ := c.d.def_ 12 (d := dd_Groups_init) rfl; fnT_mk F),
   He.glo_ok X G (c.d.fact 23 (f := .glo "Groups") rfl),
   He.mkr_ok (c.d.fact 24 (f := .mkr "Groups") rfl),
   (let ⟨_, F⟩ := c.d.def_ 13 (d := dd_named) rfl; fnT_mk F),
   He.glo_ok X G (c.d.fact 25 (f := .glo "_law_named") rfl),
   (let ⟨_, F⟩ := c.d.def_ 14 (d := dd_name) rfl; fnT_mk F),
   He.glo_ok X G (c.d.fact 26 (f := .glo "_law_name") rfl),
   (let ⟨_, F⟩ := c.d.def_ 15 (d := dd_Groups_add) rfl; fnT_mk F),
   He.meth_ok (c.d.fact 27 (f := .meth "Groups" "add") rfl),
   (let ⟨_, F⟩ := c.d.def_ 16 (d := dd_Groups_sleep) rfl; fnT_mk F),
   He.meth_ok (c.d.fact 28 (f := .meth "Groups" "sleep") rfl),
   (let ⟨_, F⟩ := c.d.def_ 17 (d := dd_Groups_wake) rfl; fnT_mk F),
   He.meth_ok (c.d.fact 29 (f := .meth "Groups" "wake") rfl),
   (let ⟨_, F⟩ := c.d.def_ 18 (d := dd_stands) rfl; fnT_mk F),
   He.glo_ok X G (c.d.fact 30 (f := .glo "_law_stands") rfl),
   (let ⟨_, F⟩ := c.d.def_ 19 (d := dd_law) rfl; fnT_mk F),
   He.glo_ok X G (c.d.fact 31 (f := .glo "law") rfl)⟩
def names : List PySem.Str := (["_wall", "WakeError", "Twice", "NoGroup", "TooDeep", "DEEPEST", "Groups", "_law_cell_at", "_law_name", "_law_named", "_law_truth_is", "_law_stands"] : List PySem.Str)
abbrev R : PySem.W.OpenRow := PySem.W.OpenLaw.row PySem.Challenge.rw_wakefew_k23_awake_by_marks
abbrev hk : PySem.W.Hook := hookW 6 fa fn exB
def ob (s : PySem.W.SharedT) : He.AlD × Bool := obsW 6 fa fn exB (HandSHeadRun.getT s)
theorem ob_eq (s : PySem.W.SharedT) : ob s = hk.obs s.abs := obsW_eq (HandSHeadRun.getT_eq s)
set_option maxHeartbeats 0 in
theorem run (w : World) : HandSHeadRun.RunEq R (PySem.W.view R.prog [15]) hk ob 6000 names w := by
  intro os
  kernel_rfl
end W
open PySem PySem.W PyProof.Rows
set_option maxRecDepth 100000 in
set_option maxHeartbeats 0 in
theorem PySem.Challenge.cw_wakefew_k23_awake_by_marks_holds : PySem.Challenge.rw_wakefew_k23_awake_by_marks.Holds := by
  w_on; o_law
  refine HandSHeadRun.head_any (r := OpenLaw.row PySem.Challenge.rw_wakefew_k23_awake_by_marks) (q := view (OpenLaw.row PySem.Challenge.rw_wakefew_k23_awake_by_marks).prog [15]) (H := W.hk) (ob := W.ob) (M := 6000) (loose := W.names) (d := HandSHeadRun.topDef (OpenLaw.row PySem.Challenge.rw_wakefew_k23_awake_by_marks).prog 15) (kwd := []) W.ob_eq
    (by kernel_rfl) (fun s => by kernel_rfl) W.run (by kernel_rfl) (by kernel_rfl) (by kernel_rfl) (by rfl) (by first | assumption | decide +kernel) (by decide +kernel) ⟨rfl, rfl, rfl, rfl, rfl, by decide +kernel⟩ ?hw ?hc
  case hw => w_witness2
  case hc =>
    refine W.walk_ofEB (l := PySem.Challenge.rw_wakefew_k23_awake_by_marks) (n := 63) (k := 20) (x := "_law_script") (CX := L2.CX0) rfl (by decide) (by kernel_rfl) ⟨rfl, by decide, by decide⟩ ?F (fun _ _ _ _ z => z)
    intro w mg fa h Y G hmg0
    obtain ⟨K, KX, c⟩ := Y
    have hmg : mg ("law" : PySem.Str) = some (.ref fa) := by
      have e : (HandSHeadRun.topDef (OpenLaw.row PySem.Challenge.rw_wakefew_k23_awake_by_marks).prog 15).name = ("law" : PySem.Str) := by kernel_rfl
      rw [← e]
      exact hmg0
    have T := W.txt_mk KX G c
    have e := hmg.symm.trans T.g_law
    cases e
    have b := L2.FunD.bindsA (ps := ["_law_script"]) T.d_law fun _ _ _ _ _ _ us hl => match us, hl with | [_], _ => rfl
    exact ⟨K, W.fdOf K ("law", none), W.sp_law K, KX, fun s v => b s [v] rfl, fun H a ns hl hb hO hS => ⟨.go, ⟨a, ns, rfl, hS, hl, hb, hO, fun _ => rfl⟩⟩, fun base _ _ => M.law_end0 (M.law_endW (τ := ⟨[], false⟩) (M.ok_law T) rfl fun ns h _ => M.law_true ns h)⟩
#print axioms PySem.Challenge.cw_wakefew_k23_awake_by_marks_holds
