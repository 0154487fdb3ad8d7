/- The program, and what lies ahead of its contracts. -/
import Derived.Test.YthpgepillaeldaaDoorProg
import Derived.Test.YthpgepillaeldaaDoorZZB
import Derived.Test.YthpgepillaeldaaDoorZY
import Derived.KernelRfl
import Derived.Test.YthpgepillaeldaaDoorZG0
